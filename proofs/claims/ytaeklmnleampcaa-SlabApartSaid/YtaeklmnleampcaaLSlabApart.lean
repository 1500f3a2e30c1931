/- NOTHING IS GIVEN TWICE: what a map gives is unlike all that was given and not given back, and what is to be free later; together with the free ones all are there. No condition. -/
import Derived.Test.YtaeklmnleampcaaSm
import Derived.Test.YtaeklmnleampcaaFSlabApart
import Derived.Deep.RegionHeld3
import Derived.BigRegion
import Derived.Deep.RegionWith
namespace Go.Proofs.Ytaeklmnleampcaa
open Go.RowKit

set_option maxRecDepth 100000 in
set_option maxHeartbeats 16000000 in
theorem slabApart_walk : SlabApartWalk := by
  intro w T v l hT hv _ _
  have HT := Lib.hid hT; clear hT
  obtain ⟨ao, acap, rfl, hlen, hrng, hcc⟩ := hv
  have HC := Lib.hid hcc; clear hcc
  have HRNG := Lib.hid hrng; clear hrng
  go_enter Try.func14, Try.ntmps14
  go_wp2_with fail
  refine (slabAlive_any _).mono ?_
  rintro e w1 ⟨rfl, hB1⟩
  have hz1 := hB1.size
  go_wp2_with fail
  refine (new_any T HT.out _).mono ?_
  rintro e w2 ⟨rfl, hm2, hb2⟩
  have hB2 := Below.step hB1 hB1.size hb2
  obtain ⟨b, hb⟩ : ∃ b, b = w1.heap.size := ⟨_, rfl⟩
  rw [← hb] at hm2 hz1 ⊢
  clear hb hb2
  by_cases hlong : 200 < l.length
  · have hlong' : (200 : Int) < (l.length : Int) := by omega
    go_wp2
    go_ret
    exact ⟨rfl, hB2⟩
  have hlong' : ¬ (200 : Int) < (l.length : Int) := by omega
  by_cases hT4 : T < 4
  · go_wp2
    go_ret
    exact ⟨rfl, hB2⟩
  by_cases hT1 : 1024 < T
  · go_wp2
    go_ret
    exact ⟨rfl, hB2⟩
  obtain ⟨N, rfl⟩ : ∃ N : Nat, T = (N : Int) := ⟨T.toNat, by omega⟩
  have hN4 : 4 ≤ N := by omega
  have hN1 : N ≤ 1024 := by omega
  have hgood := goodT_new hN1
  have H2 : ∀ n, kindF (newN (N : Int)) 2 n = false := fun n => by
    unfold kindF; rcases newN_01 (N : Int) n with h | h <;> rw [h] <;> exact decide_eq_false (by omega)
  have H3 : ∀ n, kindF (newN (N : Int)) 3 n = false := fun n => by
    unfold kindF; rcases newN_01 (N : Int) n with h | h <;> rw [h] <;> exact decide_eq_false (by omega)
  obtain ⟨st0, hst0⟩ : ∃ st, st = newN (N : Int) := ⟨_, rfl⟩
  rw [← hst0] at hm2 hgood H2 H3
  clear hst0
  have HM2 := Lib.hid hm2; clear hm2
  have H2 := Lib.hid H2
  have H3 := Lib.hid H3
  have hblt : b < w2.heap.size := HM2.out.lt
  have hz2 := hB2.size
  have hq0 : RowAt (w2.alloc (.cells Try.zeroCells60 60)) w2.heap.size 60 4096 (boolsF fun _ => false) := by rw [zero60]; exact RowAt.alloc _ _ _ _
  have HQ0 := Lib.hid hq0; clear hq0
  go_wp2_with (first
    | (refine wpList_store_row (o := ⟨none, .store 60 (.tmp 6) (.tmp 38), _, _, _, none⟩) rfl 60 (.tmp 6) (.tmp 38) rfl w2.heap.size rfl 4096 (boolsF fun _ => false) Try.zeroCells60 rfl zero60 60 (boolsF fun _ => false) HQ0.out size60 (boolsF_one _) ?_
       obtain ⟨W1, hW1⟩ : ∃ W, W = (w2.alloc (.cells Try.zeroCells60 60)).setRow w2.heap.size (arrOf 4096 (boolsF fun _ => false)) := ⟨_, rfl⟩
       rw [← hW1]
       have hr1 : RowAt W1 w2.heap.size 60 4096 (boolsF fun _ => false) := by rw [hW1]; exact RowAt.setRow HQ0.out _
       have hm1 : MapAt W1 b st0 := by rw [hW1]; exact RowAt.setRow_other (RowAt.alloc_old HM2.out _) (by omega) _
       have hB1' : Below w.heap.size w W1 := by rw [hW1]; exact Below.setRow (hB2.alloc hz2 _) hz2 _
       obtain ⟨G, hG⟩ : ∃ G, G = w2.heap.size := ⟨_, rfl⟩
       rw [← hG] at hr1 hblt hz2 ⊢
       have hGlt : G < W1.heap.size := hr1.lt
       have hq1 : RowAt (W1.alloc (.cells Try.zeroCells60 60)) W1.heap.size 60 4096 (boolsF fun _ => false) := by rw [zero60]; exact RowAt.alloc _ _ _ _
       have HQ1 := Lib.hid hq1; clear hq1 hG hW1
       have HR1 := Lib.hid hr1; clear hr1
       have HM1 := Lib.hid hm1; clear hm1)
    | (refine wpList_store_row (o := ⟨none, .store 60 (.tmp 7) (.tmp 39), _, _, _, none⟩) rfl 60 (.tmp 7) (.tmp 39) rfl W1.heap.size rfl 4096 (boolsF fun _ => false) Try.zeroCells60 rfl zero60 60 (boolsF fun _ => false) HQ1.out size60 (boolsF_one _) ?_
       obtain ⟨W2, hW2⟩ : ∃ W, W = (W1.alloc (.cells Try.zeroCells60 60)).setRow W1.heap.size (arrOf 4096 (boolsF fun _ => false)) := ⟨_, rfl⟩
       rw [← hW2]
       have hr2 : RowAt W2 W1.heap.size 60 4096 (boolsF fun _ => false) := by rw [hW2]; exact RowAt.setRow HQ1.out _
       have hm2 : MapAt W2 b st0 := by rw [hW2]; exact RowAt.setRow_other (RowAt.alloc_old HM1.out _) (by omega) _
       have hrg : RowAt W2 G 60 4096 (boolsF fun _ => false) := by rw [hW2]; exact RowAt.setRow_other (RowAt.alloc_old HR1.out _) (by omega) _
       have hB2' : Below w.heap.size w W2 := by rw [hW2]; exact Below.setRow (hB1'.alloc hB1'.size _) hB1'.size _
       have hzH := hB1'.size
       obtain ⟨H, hH⟩ : ∃ H, H = W1.heap.size := ⟨_, rfl⟩
       rw [← hH] at hr2 hGlt hzH ⊢
       clear hH hW2))
  clear HQ0 HQ1 HR1 HM1 HM2 hB1' hB2
  have hrg2 : RowAt W2 G 60 4096 (boolsF (kindF st0 2)) := hrg.congr fun i _ => by simp only [boolsF]; rw [H2.out]
  have hrh2 : RowAt W2 H 60 4096 (boolsF (kindF st0 3)) := hr2.congr fun i _ => by simp only [boolsF]; rw [H3.out]
  have HM0 := Lib.hid hm2; clear hm2 hrg hr2 H2 H3
  have hbG : b ≠ G := by omega
  have hGH : G ≠ H := by omega
  have hbH : b ≠ H := by omega
  go_loopw [42] (fun i wr => ∃ (k : Nat) (st : Nat → Nat), k ≤ l.length ∧ i = .int .i64 k ∧ GoodT N st ∧ Hid (MapAt wr b st) ∧ Hid (RowAt wr G 60 4096 (boolsF (kindF st 2))) ∧ Hid (RowAt wr H 60 4096 (boolsF (kindF st 3))) ∧ Below w.heap.size w wr)
    (fun i _ => l.length - (intOf i).toNat)
  case atStart => exact ⟨0, st0, Nat.zero_le _, rfl, hgood, HM0, hrg2, hrh2, hB2'⟩
  case round =>
    clear HM0 hrg2 hrh2 hB2' hgood
    obtain ⟨k, st, hk, rfl, hgood, HM, HG, HH, hbel⟩ := hrel
    have hzr := hbel.size
    by_cases hlt : k < l.length
    · obtain ⟨g, o, rfl, hbs, hcell⟩ := HC.out (by intro h; simp [h] at hlt)
      obtain ⟨h1, h2⟩ := span_cells hbs hcell hbel hlt
      clear hcell
      have hr := HRNG.out _ (List.getElem_mem hlt)
      obtain ⟨x, hx⟩ : ∃ x, l[k].1 = x := ⟨_, rfl⟩
      obtain ⟨n, hn⟩ : ∃ x, l[k].2 = x := ⟨_, rfl⟩
      rw [hx] at h1
      rw [hn] at h2 hr
      have hni : inI64 n := hr.2
      have HNI := Lib.hid hni
      unfold inI64 at hni
      clear hr hx hn
      obtain ⟨We, hWe⟩ : ∃ W, W = wr.alloc (.cells #[.int .i64 x, .int .i64 n] 39) := ⟨_, rfl⟩
      have hmE : MapAt We b st := by rw [hWe]; exact RowAt.alloc_old HM.out _
      have hgE : RowAt We G 60 4096 (boolsF (kindF st 2)) := by rw [hWe]; exact RowAt.alloc_old HG.out _
      have hhE : RowAt We H 60 4096 (boolsF (kindF st 3)) := by rw [hWe]; exact RowAt.alloc_old HH.out _
      have hBE : Below w.heap.size w We := by rw [hWe]; exact hbel.alloc hbel.size _
      obtain ⟨p0, p1⟩ := two_new wr (.int .i64 x) (.int .i64 n) 39
      rw [← hWe] at p0 p1
      have hse : We.heap.size = wr.heap.size + 1 := by rw [hWe]; simp
      have HWE := Lib.hid hWe; clear hWe
      have hbw : b < wr.heap.size := HM.out.lt
      have hGw : G < wr.heap.size := HG.out.lt
      have hHw : H < wr.heap.size := HH.out.lt
      have HME := Lib.hid hmE; clear hmE
      have HGE := Lib.hid hgE; clear hgE
      have HHE := Lib.hid hhE; clear hhE
      clear HM HG HH hbel
      by_cases hx012 : x = 0 ∨ x = 1 ∨ x = 2
      · rcases hx012 with rfl | rfl | rfl
        ·
          obtain ⟨m, hm⟩ : ∃ m, (if (20 : Int) < n then 20 else n) = m := ⟨_, rfl⟩
          have hmi : inI64 m := by unfold inI64; rw [← hm]; split <;> omega
          have HMI := Lib.hid hmi; clear hmi
          go_wp2_with fail
          rw [← HWE.out]
          clear HWE h1 h2 hm
          refine (many_any b st m HMI.out _ HME.out).mono ?_
          rintro e w3 ⟨v, rfl, hv, hm3, hb3⟩
          have hB3 := hBE.trans (hb3.below hz1 hBE.size)
          have hG3 := row_but HGE.out hb3 (Ne.symm hbG)
          have hH3 := row_but HHE.out hb3 (Ne.symm hbH)
          clear hb3 HME HGE HHE hBE p0 p1
          obtain ⟨O, hO⟩ : ∃ O, manyO st m = O := ⟨_, rfl⟩
          cases O with
          | none =>
            have hS : manyS st m = st := by unfold manyS; rw [hO]; rfl
            have hCo : codeM (manyO st m) = 71 := by rw [hO]; rfl
            rw [hS] at hm3
            rw [hCo]
            have HM3 := Lib.hid hm3; clear hm3 hv hO hS hCo
            have HG3 := Lib.hid hG3; clear hG3
            have HH3 := Lib.hid hH3; clear hH3
            go_wp2
            go_roundw
            case rel => exact ⟨k + 1, st, by omega, by go_num, hgood, HM3, HG3, HH3, hB3⟩
            case measure => simp [intOf]; omega
          | some P =>
            obtain ⟨q, hq, hqc⟩ : ∃ q, m.toNat = q ∧ q ≤ countN st := by
              refine ⟨_, rfl, ?_⟩
              unfold manyO at hO
              split at hO
              · omega
              · cases hO
            have hO' : manyO st m = some (manyN st q) := by
              unfold manyO at hO ⊢
              split at hO
              · rw [if_pos (by assumption), hq]
              · cases hO
            have hS : manyS st m = (manyN st q).2 := by unfold manyS; rw [hO']; rfl
            have hL : manyL st m = (manyN st q).1 := by unfold manyL; rw [hO']; rfl
            have hCo : codeM (manyO st m) = 0 := by rw [hO']; rfl
            rw [hS] at hm3
            rw [hL] at hv
            rw [hCo]
            have hlen2 := (manyN_count st hqc).2
            have hq10 : q ≤ 1024 := by have h9 : countN st ≤ 1024 := by rw [countN_eq]; exact cntTo_le _ _ _
                                       omega
            obtain ⟨va, vg, vc, rfl, hvr, hvc⟩ := owns_open hv
            rw [hlen2] at hvr ⊢
            have HM3 := Lib.hid hm3; clear hm3 hv hO hO' hS hL hCo hq
            have HVR := Lib.hid hvr; clear hvr
            have HVC := Lib.hid hvc; clear hvc
            have HLEN := Lib.hid hlen2; clear hlen2
            have HG0 : Hid (RowAt w3 G 60 4096 (boolsF (kindF (manyN st 0).2 2))) := hG3
            have HH3 := Lib.hid hH3; clear hH3 hG3
            go_wp2_with fail
            go_loopw [64] (fun i wi => ∃ j : Nat, j ≤ q ∧ i = .int .i64 j ∧ Hid (∀ z y, (manyN st q).1[z]? = some y → wi.cell? ⟨vg, z, none⟩ = some (.int .i64 (y : Nat))) ∧ Hid (MapAt wi b (manyN st q).2) ∧ Hid (RowAt wi G 60 4096 (boolsF (kindF (manyN st j).2 2))) ∧ Hid (RowAt wi H 60 4096 (boolsF (kindF st 3))) ∧ Below w.heap.size w wi)
              (fun i _ => q - (intOf i).toNat)
            case atStart => exact ⟨0, Nat.zero_le _, rfl, HVC, HM3, HG0, HH3, hB3⟩
            case round =>
              clear HVC HM3 HG0 HH3 hB3
              obtain ⟨j, hj, rfl, HVC, HM4, HG4, HH4, hB4⟩ := hrel
              have hz4 := hB4.size
              by_cases hjl : j < q
              · obtain ⟨y, hy1, hy2, hy3⟩ := many_get st hjl hqc
                obtain ⟨ha1, ha2, _, _⟩ := allocN_some hy1
                obtain ⟨hva, hvb, _⟩ := HVR.out (by omega)
                subst hva
                have c1 := HVC.out j y hy2
                have hin := goodT_in (goodT_many hgood j) ha1 (by rw [ha2]; decide)
                have hy0 : ¬ ((y : Int) < 4) := by omega
                have hyT : ¬ ((N : Int) ≤ (y : Int)) := by omega
                have hg := RowAt.cell HG4.out (i := y) (by omega)
                have hh := RowAt.cell HH4.out (i := y) (by omega)
                simp only [boolsF] at hg hh
                rw [kindF_at ha1, ha2] at hg
                rw [kindF_at ha1, decide_eq_false (fun h => by have := (many_three st j y).2 h; omega)] at hh
                have hgf := RowAt.frozen HG4.out y
                have hy4 : (0 : Int) ≤ (y : Int) := by omega
                have hy5 : (y : Int) < 4096 := by omega
                have HY3 : Hid (∀ z, kindF (manyN st (j + 1)).2 2 z = if z = y then true else kindF (manyN st j).2 2 z) := fun z => by rw [hy3, kindF_put ha1]; rfl
                have hvG : vg ≠ G := by omega
                have hj1 : (j : Int) < (q : Int) := by omega
                have hgd : decide ((1 : Nat) = 2) = false := rfl
                rw [hgd] at hg
                clear hy1 hy2 hy3 hgd ha2
                go_wp2
                go_roundw
                case rel => exact ⟨j + 1, by omega, by go_num, fun z x hzx => (World.cell?_of_block (heap_setCell_other _ ⟨G, y, none⟩ vg _ hvG)).trans (HVC.out z x hzx), map_set HM4.out G y hbG _, RowAt.setBool HG4.out y true (fun z _ => HY3.out z), RowAt.set_other HH4.out ⟨G, y, none⟩ (Ne.symm hGH) _, hB4.setCell (p := ⟨G, y, none⟩) (by show w.heap.size ≤ G; omega) _⟩
                case measure => simp [intOf]; omega
              · obtain rfl : j = q := by omega
                have hj1 : ¬ (j : Int) < (j : Int) := by omega
                have hh5 := RowAt.congr (g := boolsF (kindF (manyN st j).2 3)) HH4.out (fun z _ => by
                  simp only [boolsF]
                  rw [kindF_congr (fun y _ => (many_three st j y).symm)])
                have HH5 := Lib.hid hh5; clear hh5
                go_wp2
                go_roundw
                case rel => exact ⟨k + 1, (manyN st j).2, by omega, by go_num, goodT_many hgood j, HM4, HG4, HH5, hB4⟩
                case measure => simp [intOf]; omega
        ·
          obtain ⟨m, hm⟩ : ∃ m, (if (20 : Int) < n then 20 else n) = m := ⟨_, rfl⟩
          have hmi : inI64 m := by unfold inI64; rw [← hm]; split <;> omega
          have HMI := Lib.hid hmi; clear hmi
          go_wp2_with fail
          rw [← HWE.out]
          clear HWE h1 h2 hm
          refine (many_any b st m HMI.out _ HME.out).mono ?_
          rintro e w3 ⟨v, rfl, hv, hm3, hb3⟩
          have hB3 := hBE.trans (hb3.below hz1 hBE.size)
          have hG3 := row_but HGE.out hb3 (Ne.symm hbG)
          have hH3 := row_but HHE.out hb3 (Ne.symm hbH)
          clear hb3 HME HGE HHE hBE p0 p1
          obtain ⟨O, hO⟩ : ∃ O, manyO st m = O := ⟨_, rfl⟩
          cases O with
          | none =>
            have hS : manyS st m = st := by unfold manyS; rw [hO]; rfl
            have hCo : codeM (manyO st m) = 71 := by rw [hO]; rfl
            rw [hS] at hm3
            rw [hCo]
            have HM3 := Lib.hid hm3; clear hm3 hv hO hS hCo
            have HG3 := Lib.hid hG3; clear hG3
            have HH3 := Lib.hid hH3; clear hH3
            go_wp2
            go_roundw
            case rel => exact ⟨k + 1, st, by omega, by go_num, hgood, HM3, HG3, HH3, hB3⟩
            case measure => simp [intOf]; omega
          | some P =>
            obtain ⟨q, hq, hqc⟩ : ∃ q, m.toNat = q ∧ q ≤ countN st := by
              refine ⟨_, rfl, ?_⟩
              unfold manyO at hO
              split at hO
              · omega
              · cases hO
            have hO' : manyO st m = some (manyN st q) := by
              unfold manyO at hO ⊢
              split at hO
              · rw [if_pos (by assumption), hq]
              · cases hO
            have hS : manyS st m = (manyN st q).2 := by unfold manyS; rw [hO']; rfl
            have hL : manyL st m = (manyN st q).1 := by unfold manyL; rw [hO']; rfl
            have hCo : codeM (manyO st m) = 0 := by rw [hO']; rfl
            rw [hS] at hm3
            rw [hL] at hv
            rw [hCo]
            have hlen2 := (manyN_count st hqc).2
            have hq10 : q ≤ 1024 := by have h9 : countN st ≤ 1024 := by rw [countN_eq]; exact cntTo_le _ _ _
                                       omega
            obtain ⟨va, vg, vc, rfl, hvr, hvc⟩ := owns_open hv
            rw [hlen2] at hvr ⊢
            have HM3 := Lib.hid hm3; clear hm3 hv hO hO' hS hL hCo hq
            have HVR := Lib.hid hvr; clear hvr
            have HVC := Lib.hid hvc; clear hvc
            have HLEN := Lib.hid hlen2; clear hlen2
            have HG0 : Hid (RowAt w3 G 60 4096 (boolsF (kindF (manyN st 0).2 2))) := hG3
            have HH3 := Lib.hid hH3; clear hH3 hG3
            go_wp2_with fail
            go_loopw [64] (fun i wi => ∃ j : Nat, j ≤ q ∧ i = .int .i64 j ∧ Hid (∀ z y, (manyN st q).1[z]? = some y → wi.cell? ⟨vg, z, none⟩ = some (.int .i64 (y : Nat))) ∧ Hid (MapAt wi b (manyN st q).2) ∧ Hid (RowAt wi G 60 4096 (boolsF (kindF (manyN st j).2 2))) ∧ Hid (RowAt wi H 60 4096 (boolsF (kindF st 3))) ∧ Below w.heap.size w wi)
              (fun i _ => q - (intOf i).toNat)
            case atStart => exact ⟨0, Nat.zero_le _, rfl, HVC, HM3, HG0, HH3, hB3⟩
            case round =>
              clear HVC HM3 HG0 HH3 hB3
              obtain ⟨j, hj, rfl, HVC, HM4, HG4, HH4, hB4⟩ := hrel
              have hz4 := hB4.size
              by_cases hjl : j < q
              · obtain ⟨y, hy1, hy2, hy3⟩ := many_get st hjl hqc
                obtain ⟨ha1, ha2, _, _⟩ := allocN_some hy1
                obtain ⟨hva, hvb, _⟩ := HVR.out (by omega)
                subst hva
                have c1 := HVC.out j y hy2
                have hin := goodT_in (goodT_many hgood j) ha1 (by rw [ha2]; decide)
                have hy0 : ¬ ((y : Int) < 4) := by omega
                have hyT : ¬ ((N : Int) ≤ (y : Int)) := by omega
                have hg := RowAt.cell HG4.out (i := y) (by omega)
                have hh := RowAt.cell HH4.out (i := y) (by omega)
                simp only [boolsF] at hg hh
                rw [kindF_at ha1, ha2] at hg
                rw [kindF_at ha1, decide_eq_false (fun h => by have := (many_three st j y).2 h; omega)] at hh
                have hgf := RowAt.frozen HG4.out y
                have hy4 : (0 : Int) ≤ (y : Int) := by omega
                have hy5 : (y : Int) < 4096 := by omega
                have HY3 : Hid (∀ z, kindF (manyN st (j + 1)).2 2 z = if z = y then true else kindF (manyN st j).2 2 z) := fun z => by rw [hy3, kindF_put ha1]; rfl
                have hvG : vg ≠ G := by omega
                have hj1 : (j : Int) < (q : Int) := by omega
                have hgd : decide ((1 : Nat) = 2) = false := rfl
                rw [hgd] at hg
                clear hy1 hy2 hy3 hgd ha2
                go_wp2
                go_roundw
                case rel => exact ⟨j + 1, by omega, by go_num, fun z x hzx => (World.cell?_of_block (heap_setCell_other _ ⟨G, y, none⟩ vg _ hvG)).trans (HVC.out z x hzx), map_set HM4.out G y hbG _, RowAt.setBool HG4.out y true (fun z _ => HY3.out z), RowAt.set_other HH4.out ⟨G, y, none⟩ (Ne.symm hGH) _, hB4.setCell (p := ⟨G, y, none⟩) (by show w.heap.size ≤ G; omega) _⟩
                case measure => simp [intOf]; omega
              · obtain rfl : j = q := by omega
                have hj1 : ¬ (j : Int) < (j : Int) := by omega
                have hh5 := RowAt.congr (g := boolsF (kindF (manyN st j).2 3)) HH4.out (fun z _ => by
                  simp only [boolsF]
                  rw [kindF_congr (fun y _ => (many_three st j y).symm)])
                have HH5 := Lib.hid hh5; clear hh5
                go_wp2
                go_roundw
                case rel => exact ⟨k + 1, (manyN st j).2, by omega, by go_num, goodT_many hgood j, HM4, HG4, HH5, hB4⟩
                case measure => simp [intOf]; omega
        ·
          obtain ⟨m, hm⟩ : ∃ m, (if (20 : Int) < n then 20 else n) = m := ⟨_, rfl⟩
          have hmi : inI64 m := by unfold inI64; rw [← hm]; split <;> omega
          have HMI := Lib.hid hmi; clear hmi
          go_wp2_with fail
          rw [← HWE.out]
          clear HWE h1 h2 hm
          refine (many_any b st m HMI.out _ HME.out).mono ?_
          rintro e w3 ⟨v, rfl, hv, hm3, hb3⟩
          have hB3 := hBE.trans (hb3.below hz1 hBE.size)
          have hG3 := row_but HGE.out hb3 (Ne.symm hbG)
          have hH3 := row_but HHE.out hb3 (Ne.symm hbH)
          clear hb3 HME HGE HHE hBE p0 p1
          obtain ⟨O, hO⟩ : ∃ O, manyO st m = O := ⟨_, rfl⟩
          cases O with
          | none =>
            have hS : manyS st m = st := by unfold manyS; rw [hO]; rfl
            have hCo : codeM (manyO st m) = 71 := by rw [hO]; rfl
            rw [hS] at hm3
            rw [hCo]
            have HM3 := Lib.hid hm3; clear hm3 hv hO hS hCo
            have HG3 := Lib.hid hG3; clear hG3
            have HH3 := Lib.hid hH3; clear hH3
            go_wp2
            go_roundw
            case rel => exact ⟨k + 1, st, by omega, by go_num, hgood, HM3, HG3, HH3, hB3⟩
            case measure => simp [intOf]; omega
          | some P =>
            obtain ⟨q, hq, hqc⟩ : ∃ q, m.toNat = q ∧ q ≤ countN st := by
              refine ⟨_, rfl, ?_⟩
              unfold manyO at hO
              split at hO
              · omega
              · cases hO
            have hO' : manyO st m = some (manyN st q) := by
              unfold manyO at hO ⊢
              split at hO
              · rw [if_pos (by assumption), hq]
              · cases hO
            have hS : manyS st m = (manyN st q).2 := by unfold manyS; rw [hO']; rfl
            have hL : manyL st m = (manyN st q).1 := by unfold manyL; rw [hO']; rfl
            have hCo : codeM (manyO st m) = 0 := by rw [hO']; rfl
            rw [hS] at hm3
            rw [hL] at hv
            rw [hCo]
            have hlen2 := (manyN_count st hqc).2
            have hq10 : q ≤ 1024 := by have h9 : countN st ≤ 1024 := by rw [countN_eq]; exact cntTo_le _ _ _
                                       omega
            obtain ⟨va, vg, vc, rfl, hvr, hvc⟩ := owns_open hv
            rw [hlen2] at hvr ⊢
            have HM3 := Lib.hid hm3; clear hm3 hv hO hO' hS hL hCo hq
            have HVR := Lib.hid hvr; clear hvr
            have HVC := Lib.hid hvc; clear hvc
            have HLEN := Lib.hid hlen2; clear hlen2
            have HG0 : Hid (RowAt w3 G 60 4096 (boolsF (kindF (manyN st 0).2 2))) := hG3
            have HH3 := Lib.hid hH3; clear hH3 hG3
            go_wp2_with fail
            go_loopw [64] (fun i wi => ∃ j : Nat, j ≤ q ∧ i = .int .i64 j ∧ Hid (∀ z y, (manyN st q).1[z]? = some y → wi.cell? ⟨vg, z, none⟩ = some (.int .i64 (y : Nat))) ∧ Hid (MapAt wi b (manyN st q).2) ∧ Hid (RowAt wi G 60 4096 (boolsF (kindF (manyN st j).2 2))) ∧ Hid (RowAt wi H 60 4096 (boolsF (kindF st 3))) ∧ Below w.heap.size w wi)
              (fun i _ => q - (intOf i).toNat)
            case atStart => exact ⟨0, Nat.zero_le _, rfl, HVC, HM3, HG0, HH3, hB3⟩
            case round =>
              clear HVC HM3 HG0 HH3 hB3
              obtain ⟨j, hj, rfl, HVC, HM4, HG4, HH4, hB4⟩ := hrel
              have hz4 := hB4.size
              by_cases hjl : j < q
              · obtain ⟨y, hy1, hy2, hy3⟩ := many_get st hjl hqc
                obtain ⟨ha1, ha2, _, _⟩ := allocN_some hy1
                obtain ⟨hva, hvb, _⟩ := HVR.out (by omega)
                subst hva
                have c1 := HVC.out j y hy2
                have hin := goodT_in (goodT_many hgood j) ha1 (by rw [ha2]; decide)
                have hy0 : ¬ ((y : Int) < 4) := by omega
                have hyT : ¬ ((N : Int) ≤ (y : Int)) := by omega
                have hg := RowAt.cell HG4.out (i := y) (by omega)
                have hh := RowAt.cell HH4.out (i := y) (by omega)
                simp only [boolsF] at hg hh
                rw [kindF_at ha1, ha2] at hg
                rw [kindF_at ha1, decide_eq_false (fun h => by have := (many_three st j y).2 h; omega)] at hh
                have hgf := RowAt.frozen HG4.out y
                have hy4 : (0 : Int) ≤ (y : Int) := by omega
                have hy5 : (y : Int) < 4096 := by omega
                have HY3 : Hid (∀ z, kindF (manyN st (j + 1)).2 2 z = if z = y then true else kindF (manyN st j).2 2 z) := fun z => by rw [hy3, kindF_put ha1]; rfl
                have hvG : vg ≠ G := by omega
                have hj1 : (j : Int) < (q : Int) := by omega
                have hgd : decide ((1 : Nat) = 2) = false := rfl
                rw [hgd] at hg
                clear hy1 hy2 hy3 hgd ha2
                go_wp2
                go_roundw
                case rel => exact ⟨j + 1, by omega, by go_num, fun z x hzx => (World.cell?_of_block (heap_setCell_other _ ⟨G, y, none⟩ vg _ hvG)).trans (HVC.out z x hzx), map_set HM4.out G y hbG _, RowAt.setBool HG4.out y true (fun z _ => HY3.out z), RowAt.set_other HH4.out ⟨G, y, none⟩ (Ne.symm hGH) _, hB4.setCell (p := ⟨G, y, none⟩) (by show w.heap.size ≤ G; omega) _⟩
                case measure => simp [intOf]; omega
              · obtain rfl : j = q := by omega
                have hj1 : ¬ (j : Int) < (j : Int) := by omega
                have hh5 := RowAt.congr (g := boolsF (kindF (manyN st j).2 3)) HH4.out (fun z _ => by
                  simp only [boolsF]
                  rw [kindF_congr (fun y _ => (many_three st j y).symm)])
                have HH5 := Lib.hid hh5; clear hh5
                go_wp2
                go_roundw
                case rel => exact ⟨k + 1, (manyN st j).2, by omega, by go_num, goodT_many hgood j, HM4, HG4, HH5, hB4⟩
                case measure => simp [intOf]; omega
      by_cases hx3 : x = 3
      · subst hx3
        by_cases hn0 : n < 0
        · go_wp2_with fail
          rw [← HWE.out]
          go_roundw
          case rel => exact ⟨k + 1, st, by omega, by go_num, hgood, HME, HGE, HHE, hBE⟩
          case measure => simp [intOf]; omega
        by_cases hn1 : 1024 ≤ n
        · go_wp2_with fail
          rw [← HWE.out]
          go_roundw
          case rel => exact ⟨k + 1, st, by omega, by go_num, hgood, HME, HGE, HHE, hBE⟩
          case measure => simp [intOf]; omega
        obtain ⟨q, rfl⟩ : ∃ q : Nat, n = (q : Int) := ⟨n.toNat, by omega⟩
        have hq : q < 1024 := by omega
        have hq0 : (0 : Int) ≤ (q : Int) := by omega
        have hq4 : (q : Int) < 4096 := by omega
        have hq1 : ¬ (q : Int) < 0 := by omega

        by_cases hs : st q = 2
        · obtain ⟨t1, t2⟩ := turn_yes (st := st) (v := 1) hq hs
          have T1 := Lib.hid t1; clear t1
          have T2 := Lib.hid t2; clear t2
          go_wp2_with fail
          rw [← HWE.out]
          clear HWE h1 h2
          obtain ⟨E, hE⟩ : ∃ E, E = wr.heap.size := ⟨_, rfl⟩
          have hbE : b ≠ E := by omega
          have hGE' : G ≠ E := by omega
          have hHE' : H ≠ E := by omega
          rw [← hE] at p0 p1 hse ⊢
          clear hE
          refine (free_any b st q HNI.out _ HME.out).mono ?_
          rw [T1.out, T2.out]
          rintro e w3 ⟨rfl, hm3, hb3⟩
          have hB3 := hBE.trans (hb3.below hz1 hBE.size)
          have hG3 := row_but HGE.out hb3 (Ne.symm hbG)
          have hH3 := row_but HHE.out hb3 (Ne.symm hbH)
          have r0 : w3.cell? ⟨E, 0, none⟩ = some (.int .i64 3) := (World.cell?_of_block (hb3.block E (by omega) (Ne.symm hbE))).trans p0
          have r1 : w3.cell? ⟨E, 1, none⟩ = some (.int .i64 (q : Int)) := (World.cell?_of_block (hb3.block E (by omega) (Ne.symm hbE))).trans p1
          have HM3 := Lib.hid hm3; clear hm3 hb3 p0 p1 hse
          have gc := RowAt.cell hG3 (i := q) (by omega)
          have hc := RowAt.cell hH3 (i := q) (by omega)
          have gf := RowAt.frozen hG3 q
          have hf := RowAt.frozen hH3 q
          simp only [boolsF] at gc hc
          rw [kindF_at hq] at gc hc
          have HG3 := Lib.hid hG3; clear hG3
          have HH3 := Lib.hid hH3; clear hH3
          rw [hs] at gc
          have gd : decide ((2 : Nat) = 2) = true := rfl
          rw [gd] at gc
          clear gd hc hf
          have hgd2 := goodT_put hgood (i := q) (v := 1) (by rw [hs]; decide) (by decide) (by decide)
          have HKG : Hid (∀ z, kindF (putN st q 1) 2 z = if z = q then false else kindF st 2 z) := fun z => by rw [kindF_put hq]; rfl
          have HKH : Hid (∀ z, kindF st 3 z = kindF (putN st q 1) 3 z) := fun z => by
            rw [kindF_put hq]
            by_cases hz : z = q
            · subst hz; rw [if_pos rfl, kindF_at hq, hs]; rfl
            · rw [if_neg hz]
          clear hs
          go_wp2_with fail
          go_roundw
          case rel => exact ⟨k + 1, putN st q 1, by omega, by go_num, hgd2, map_set HM3.out G q hbG _, RowAt.setBool HG3.out q false (fun z _ => HKG.out z), RowAt.congr (RowAt.set_other HH3.out ⟨G, q, none⟩ (Ne.symm hGH) _) (fun z _ => congrArg Value.bool (HKH.out z)), hB3.setCell (p := ⟨G, q, none⟩) (by show w.heap.size ≤ G; omega) _⟩
          case measure => simp [intOf]; omega
        · have hno : isB st (q : Int) 2 = false := by rw [isB_nat st hq]; exact decide_eq_false hs
          obtain ⟨t1, t2⟩ := turn_no (v := 1) hno
          have T1 := Lib.hid t1; clear t1
          have T2 := Lib.hid t2; clear t2 hno
          go_wp2_with fail
          rw [← HWE.out]
          clear HWE h1 h2
          obtain ⟨E, hE⟩ : ∃ E, E = wr.heap.size := ⟨_, rfl⟩
          have hbE : b ≠ E := by omega
          have hGE' : G ≠ E := by omega
          have hHE' : H ≠ E := by omega
          rw [← hE] at p0 p1 hse ⊢
          clear hE
          refine (free_any b st q HNI.out _ HME.out).mono ?_
          rw [T1.out, T2.out]
          rintro e w3 ⟨rfl, hm3, hb3⟩
          have hB3 := hBE.trans (hb3.below hz1 hBE.size)
          have hG3 := row_but HGE.out hb3 (Ne.symm hbG)
          have hH3 := row_but HHE.out hb3 (Ne.symm hbH)
          have r0 : w3.cell? ⟨E, 0, none⟩ = some (.int .i64 3) := (World.cell?_of_block (hb3.block E (by omega) (Ne.symm hbE))).trans p0
          have r1 : w3.cell? ⟨E, 1, none⟩ = some (.int .i64 (q : Int)) := (World.cell?_of_block (hb3.block E (by omega) (Ne.symm hbE))).trans p1
          have HM3 := Lib.hid hm3; clear hm3 hb3 p0 p1 hse
          have gc := RowAt.cell hG3 (i := q) (by omega)
          have hc := RowAt.cell hH3 (i := q) (by omega)
          have gf := RowAt.frozen hG3 q
          have hf := RowAt.frozen hH3 q
          simp only [boolsF] at gc hc
          rw [kindF_at hq] at gc hc
          have HG3 := Lib.hid hG3; clear hG3
          have HH3 := Lib.hid hH3; clear hH3
          rw [decide_eq_false hs] at gc
          clear hc hf
          have HKG : Hid (∀ z, kindF st 2 z = if z = q then false else kindF st 2 z) := fun z => by
            by_cases hz : z = q
            · subst hz; rw [if_pos rfl, kindF_at hq]; exact decide_eq_false hs
            · rw [if_neg hz]
          clear hs
          go_wp2_with fail
          go_roundw
          case rel => exact ⟨k + 1, st, by omega, by go_num, hgood, map_set HM3.out G q hbG _, RowAt.setBool HG3.out q false (fun z _ => HKG.out z), RowAt.set_other HH3.out ⟨G, q, none⟩ (Ne.symm hGH) _, hB3.setCell (p := ⟨G, q, none⟩) (by show w.heap.size ≤ G; omega) _⟩
          case measure => simp [intOf]; omega
      by_cases hx4 : x = 4
      · subst hx4
        by_cases hn0 : n < 0
        · go_wp2_with fail
          rw [← HWE.out]
          go_roundw
          case rel => exact ⟨k + 1, st, by omega, by go_num, hgood, HME, HGE, HHE, hBE⟩
          case measure => simp [intOf]; omega
        by_cases hn1 : 1024 ≤ n
        · go_wp2_with fail
          rw [← HWE.out]
          go_roundw
          case rel => exact ⟨k + 1, st, by omega, by go_num, hgood, HME, HGE, HHE, hBE⟩
          case measure => simp [intOf]; omega
        obtain ⟨q, rfl⟩ : ∃ q : Nat, n = (q : Int) := ⟨n.toNat, by omega⟩
        have hq : q < 1024 := by omega
        have hq0 : (0 : Int) ≤ (q : Int) := by omega
        have hq4 : (q : Int) < 4096 := by omega
        have hq1 : ¬ (q : Int) < 0 := by omega

        by_cases hs : st q = 2
        · obtain ⟨t1, t2⟩ := turn_yes (st := st) (v := 3) hq hs
          have T1 := Lib.hid t1; clear t1
          have T2 := Lib.hid t2; clear t2
          go_wp2_with fail
          rw [← HWE.out]
          clear HWE h1 h2
          obtain ⟨E, hE⟩ : ∃ E, E = wr.heap.size := ⟨_, rfl⟩
          have hbE : b ≠ E := by omega
          have hGE' : G ≠ E := by omega
          have hHE' : H ≠ E := by omega
          rw [← hE] at p0 p1 hse ⊢
          clear hE
          refine (later_any b st q HNI.out _ HME.out).mono ?_
          rw [T1.out, T2.out]
          rintro e w3 ⟨rfl, hm3, hb3⟩
          have hB3 := hBE.trans (hb3.below hz1 hBE.size)
          have hG3 := row_but HGE.out hb3 (Ne.symm hbG)
          have hH3 := row_but HHE.out hb3 (Ne.symm hbH)
          have r0 : w3.cell? ⟨E, 0, none⟩ = some (.int .i64 4) := (World.cell?_of_block (hb3.block E (by omega) (Ne.symm hbE))).trans p0
          have r1 : w3.cell? ⟨E, 1, none⟩ = some (.int .i64 (q : Int)) := (World.cell?_of_block (hb3.block E (by omega) (Ne.symm hbE))).trans p1
          have HM3 := Lib.hid hm3; clear hm3 hb3 p0 p1 hse
          have gc := RowAt.cell hG3 (i := q) (by omega)
          have hc := RowAt.cell hH3 (i := q) (by omega)
          have gf := RowAt.frozen hG3 q
          have hf := RowAt.frozen hH3 q
          simp only [boolsF] at gc hc
          rw [kindF_at hq] at gc hc
          have HG3 := Lib.hid hG3; clear hG3
          have HH3 := Lib.hid hH3; clear hH3
          rw [hs] at hc
          have gd : decide ((2 : Nat) = 3) = false := rfl
          rw [gd] at hc
          clear gd
          have HS2 : Hid (decide (st q = 2) = true) := decide_eq_true hs
          have hgd2 := goodT_put hgood (i := q) (v := 3) (by rw [hs]; decide) (by decide) (by decide)
          have HKG : Hid (∀ z, kindF (putN st q 3) 2 z = if z = q then false else kindF st 2 z) := fun z => by rw [kindF_put hq]; rfl
          have HKH : Hid (∀ z, kindF (putN st q 3) 3 z = if z = q then true else kindF st 3 z) := fun z => by rw [kindF_put hq]; rfl
          clear hs gc
          have gc : True := trivial
          go_wp2_with fail
          go_region
          obtain ⟨w4, hw4⟩ : ∃ W, W = (w3.setCell ⟨H, q, none⟩ (.bool true)).drew := ⟨_, rfl⟩
          rw [← hw4]
          have hm4 : MapAt w4 b (putN st q 3) := by rw [hw4]; exact map_set HM3.out H q hbH _
          have hg4 : RowAt w4 G 60 4096 (boolsF (kindF st 2)) := by rw [hw4]; exact RowAt.set_other HG3.out ⟨H, q, none⟩ hGH _
          have hh4 : RowAt w4 H 60 4096 (boolsF (kindF (putN st q 3) 3)) := by rw [hw4]; exact RowAt.setBool HH3.out q true (fun z _ => HKH.out z)
          have hB4 : Below w.heap.size w w4 := by rw [hw4]; exact (hB3.setCell (p := ⟨H, q, none⟩) (by show w.heap.size ≤ H; omega) _).drew
          have s1 : w4.cell? ⟨E, 1, none⟩ = some (.int .i64 (q : Int)) := by rw [hw4]; exact (World.cell?_of_block (heap_setCell_other w3 ⟨H, q, none⟩ E _ (Ne.symm hHE'))).trans r1
          have gc4 := RowAt.cell hg4 (i := q) (by omega)
          have gf4 := RowAt.frozen hg4 q
          simp only [boolsF] at gc4
          rw [kindF_at hq, HS2.out] at gc4
          have HM4 := Lib.hid hm4; clear hm4
          have HG4 := Lib.hid hg4; clear hg4
          have HH4 := Lib.hid hh4; clear hh4
          clear hw4 r0 r1 gc hc gf hf
          go_wp2_with fail
          go_roundw
          case rel => exact ⟨k + 1, (putN st q 3), by omega, by go_num, hgd2, map_set HM4.out G q hbG _, RowAt.setBool HG4.out q false (fun z _ => HKG.out z), RowAt.set_other HH4.out ⟨G, q, none⟩ (Ne.symm hGH) _, hB4.setCell (p := ⟨G, q, none⟩) (by show w.heap.size ≤ G; omega) _⟩
          case measure => simp [intOf]; omega
        · have hno : isB st (q : Int) 2 = false := by rw [isB_nat st hq]; exact decide_eq_false hs
          obtain ⟨t1, t2⟩ := turn_no (v := 3) hno
          have T1 := Lib.hid t1; clear t1
          have T2 := Lib.hid t2; clear t2 hno
          go_wp2_with fail
          rw [← HWE.out]
          clear HWE h1 h2
          obtain ⟨E, hE⟩ : ∃ E, E = wr.heap.size := ⟨_, rfl⟩
          have hbE : b ≠ E := by omega
          have hGE' : G ≠ E := by omega
          have hHE' : H ≠ E := by omega
          rw [← hE] at p0 p1 hse ⊢
          clear hE
          refine (later_any b st q HNI.out _ HME.out).mono ?_
          rw [T1.out, T2.out]
          rintro e w3 ⟨rfl, hm3, hb3⟩
          have hB3 := hBE.trans (hb3.below hz1 hBE.size)
          have hG3 := row_but HGE.out hb3 (Ne.symm hbG)
          have hH3 := row_but HHE.out hb3 (Ne.symm hbH)
          have r0 : w3.cell? ⟨E, 0, none⟩ = some (.int .i64 4) := (World.cell?_of_block (hb3.block E (by omega) (Ne.symm hbE))).trans p0
          have r1 : w3.cell? ⟨E, 1, none⟩ = some (.int .i64 (q : Int)) := (World.cell?_of_block (hb3.block E (by omega) (Ne.symm hbE))).trans p1
          have HM3 := Lib.hid hm3; clear hm3 hb3 p0 p1 hse
          have gc := RowAt.cell hG3 (i := q) (by omega)
          have hc := RowAt.cell hH3 (i := q) (by omega)
          have gf := RowAt.frozen hG3 q
          have hf := RowAt.frozen hH3 q
          simp only [boolsF] at gc hc
          rw [kindF_at hq] at gc hc
          have HG3 := Lib.hid hG3; clear hG3
          have HH3 := Lib.hid hH3; clear hH3
          have HS2 : Hid (decide (st q = 2) = false) := decide_eq_false hs
          have HKG : Hid (∀ z, kindF st 2 z = if z = q then false else kindF st 2 z) := fun z => by
            by_cases hz : z = q
            · subst hz; rw [if_pos rfl, kindF_at hq]; exact decide_eq_false hs
            · rw [if_neg hz]
          clear hs gc
          have gc : True := trivial
          by_cases hs3 : st q = 3
          · rw [decide_eq_true hs3] at hc
            have HKH : Hid (∀ z, kindF st 3 z = if z = q then true else kindF st 3 z) := fun z => by
              by_cases hz : z = q
              · subst hz; rw [if_pos rfl, kindF_at hq]; exact decide_eq_true hs3
              · rw [if_neg hz]
            clear hs3
            go_wp2_with fail
            go_region
            obtain ⟨w4, hw4⟩ : ∃ W, W = (w3.setCell ⟨H, q, none⟩ (.bool true)).drew := ⟨_, rfl⟩
            rw [← hw4]
            have hm4 : MapAt w4 b st := by rw [hw4]; exact map_set HM3.out H q hbH _
            have hg4 : RowAt w4 G 60 4096 (boolsF (kindF st 2)) := by rw [hw4]; exact RowAt.set_other HG3.out ⟨H, q, none⟩ hGH _
            have hh4 : RowAt w4 H 60 4096 (boolsF (kindF st 3)) := by rw [hw4]; exact RowAt.setBool HH3.out q true (fun z _ => HKH.out z)
            have hB4 : Below w.heap.size w w4 := by rw [hw4]; exact (hB3.setCell (p := ⟨H, q, none⟩) (by show w.heap.size ≤ H; omega) _).drew
            have s1 : w4.cell? ⟨E, 1, none⟩ = some (.int .i64 (q : Int)) := by rw [hw4]; exact (World.cell?_of_block (heap_setCell_other w3 ⟨H, q, none⟩ E _ (Ne.symm hHE'))).trans r1
            have gc4 := RowAt.cell hg4 (i := q) (by omega)
            have gf4 := RowAt.frozen hg4 q
            simp only [boolsF] at gc4
            rw [kindF_at hq, HS2.out] at gc4
            have HM4 := Lib.hid hm4; clear hm4
            have HG4 := Lib.hid hg4; clear hg4
            have HH4 := Lib.hid hh4; clear hh4
            clear hw4 r0 r1 gc hc gf hf
            go_wp2_with fail
            go_roundw
            case rel => exact ⟨k + 1, st, by omega, by go_num, hgood, map_set HM4.out G q hbG _, RowAt.setBool HG4.out q false (fun z _ => HKG.out z), RowAt.set_other HH4.out ⟨G, q, none⟩ (Ne.symm hGH) _, hB4.setCell (p := ⟨G, q, none⟩) (by show w.heap.size ≤ G; omega) _⟩
            case measure => simp [intOf]; omega
          · rw [decide_eq_false hs3] at hc
            have HKH : Hid (∀ z, kindF st 3 z = if z = q then false else kindF st 3 z) := fun z => by
              by_cases hz : z = q
              · subst hz; rw [if_pos rfl, kindF_at hq]; exact decide_eq_false hs3
              · rw [if_neg hz]
            clear hs3
            go_wp2_with fail
            go_region
            obtain ⟨w4, hw4⟩ : ∃ W, W = (w3.setCell ⟨H, q, none⟩ (.bool false)).drew := ⟨_, rfl⟩
            rw [← hw4]
            have hm4 : MapAt w4 b st := by rw [hw4]; exact map_set HM3.out H q hbH _
            have hg4 : RowAt w4 G 60 4096 (boolsF (kindF st 2)) := by rw [hw4]; exact RowAt.set_other HG3.out ⟨H, q, none⟩ hGH _
            have hh4 : RowAt w4 H 60 4096 (boolsF (kindF st 3)) := by rw [hw4]; exact RowAt.setBool HH3.out q false (fun z _ => HKH.out z)
            have hB4 : Below w.heap.size w w4 := by rw [hw4]; exact (hB3.setCell (p := ⟨H, q, none⟩) (by show w.heap.size ≤ H; omega) _).drew
            have s1 : w4.cell? ⟨E, 1, none⟩ = some (.int .i64 (q : Int)) := by rw [hw4]; exact (World.cell?_of_block (heap_setCell_other w3 ⟨H, q, none⟩ E _ (Ne.symm hHE'))).trans r1
            have gc4 := RowAt.cell hg4 (i := q) (by omega)
            have gf4 := RowAt.frozen hg4 q
            simp only [boolsF] at gc4
            rw [kindF_at hq, HS2.out] at gc4
            have HM4 := Lib.hid hm4; clear hm4
            have HG4 := Lib.hid hg4; clear hg4
            have HH4 := Lib.hid hh4; clear hh4
            clear hw4 r0 r1 gc hc gf hf
            go_wp2_with fail
            go_roundw
            case rel => exact ⟨k + 1, st, by omega, by go_num, hgood, map_set HM4.out G q hbG _, RowAt.setBool HG4.out q false (fun z _ => HKG.out z), RowAt.set_other HH4.out ⟨G, q, none⟩ (Ne.symm hGH) _, hB4.setCell (p := ⟨G, q, none⟩) (by show w.heap.size ≤ G; omega) _⟩
            case measure => simp [intOf]; omega
      by_cases hx5 : x = 5
      · subst hx5
        go_wp2_with fail
        rw [← HWE.out]
        clear HWE h1 h2
        refine (commit_any b st _ HME.out).mono ?_
        rintro e w3 ⟨rfl, hm3, hb3⟩
        have hB3 := hBE.trans (hb3.below hz1 hBE.size)
        have hG3 := row_but HGE.out hb3 (Ne.symm hbG)
        have hH3 := row_but HHE.out hb3 (Ne.symm hbH)
        have hG4 := RowAt.congr (g := boolsF (kindF (commitN st) 2)) hG3 (fun z _ => by
          simp only [boolsF]
          rw [kindF_congr (st' := commitN st) (fun y _ => by
            unfold commitN
            constructor
            · intro h; rw [if_neg (by omega)]; exact h
            · intro h
              split at h
              · omega
              · exact h)])
        have HG4 := Lib.hid hG4; clear hG4 hG3
        have HH3 := Lib.hid hH3; clear hH3
        have HM3 := Lib.hid hm3; clear hm3 hb3
        have HK3 : Hid (∀ z, kindF (commitN st) 3 z = false) := fun z => by
          unfold kindF commitN
          refine decide_eq_false fun h => ?_
          have := h.2
          split at this <;> omega
        clear p0 p1 hse
        have hgd2 := goodT_commit hgood
        go_wp2_with (refine wpList_store_row (o := ⟨none, .store 60 (.tmp 7) (.tmp 135), _, _, _, none⟩) rfl 60 (.tmp 7) (.tmp 135) rfl H rfl 4096 (boolsF fun _ => false) Try.zeroCells60 rfl zero60 60 (boolsF (kindF st 3)) HH3.out size60 (boolsF_one _) ?_)
        go_roundw
        case rel => exact ⟨k + 1, commitN st, by omega, by go_num, hgd2, RowAt.setRow_other HM3.out hbH _, RowAt.setRow_other HG4.out hGH _, RowAt.congr (RowAt.setRow HH3.out (boolsF fun _ => false)) (fun z _ => by simp only [boolsF]; rw [HK3.out]), Below.setRow hB3 (by omega) _⟩
        case measure => simp [intOf]; omega
      have e0 : ((x : Int) == 0) = false := by rw [beq_eq_false_iff_ne]; omega
      have e1 : ((x : Int) == 1) = false := by rw [beq_eq_false_iff_ne]; omega
      have e2 : ((x : Int) == 2) = false := by rw [beq_eq_false_iff_ne]; omega
      have e3 : ((x : Int) == 3) = false := by rw [beq_eq_false_iff_ne]; omega
      have e4 : ((x : Int) == 4) = false := by rw [beq_eq_false_iff_ne]; omega
      have e5 : ((x : Int) == 5) = false := by rw [beq_eq_false_iff_ne]; omega
      clear hx012 hx3 hx4 hx5
      go_wp2_with fail
      rw [← HWE.out]
      go_roundw
      case rel => exact ⟨k + 1, st, by omega, by go_num, hgood, HME, HGE, HHE, hBE⟩
      case measure => simp [intOf]; omega
    · have hle : ¬ (k : Int) < (l.length : Int) := by omega
      clear hlt
      obtain ⟨L6, hL6⟩ : ∃ L : List Value, L = (arrOf 4096 (boolsF (kindF st 2))).toList := ⟨_, rfl⟩
      obtain ⟨L7, hL7⟩ : ∃ L : List Value, L = (arrOf 4096 (boolsF (kindF st 3))).toList := ⟨_, rfl⟩
      have g6 : wr.rangeAt G 0 L6 := by rw [hL6]; exact row_range HG.out
      have g7 : wr.rangeAt H 0 L7 := by rw [hL7]; exact row_range HH.out
      have len6 : L6.length = 4096 := by rw [hL6, Array.length_toList, arrOf_size]
      have len7 : L7.length = 4096 := by rw [hL7, Array.length_toList, arrOf_size]
      have hi6 : (Try.prog.info? 60).map (·.size) = some L6.length := by rw [len6]; exact size60
      have hi7 : (Try.prog.info? 60).map (·.size) = some L7.length := by rw [len7]; exact size60
      have A6 : Hid (L6.toArray = arrOf 4096 (boolsF (kindF st 2))) := by rw [hL6]; exact Array.toArray_toList
      have A7 : Hid (L7.toArray = arrOf 4096 (boolsF (kindF st 3))) := by rw [hL7]; exact Array.toArray_toList
      clear hL6 hL7 HG HH
      have hu60 := Try.underlying60
      have hbelD : Below w.heap.size w wr.drew := hbel.drew
      go_wp2_with fail
      have g6 := range_drew g6
      have g7 := range_drew g7
      refine wp_region_held_drew (S := fun W => W.rangeAt G 0 L6 ∧ W.rangeAt H 0 L7) (by kernel_rfl) ⟨g6, g7⟩ (fun hS0 => ?_)
      refine wpAnyH_take (i := 0) (v := .agg L6.toArray) rfl (by kernel_rfl) (by kernel_rfl) (by kernel_rfl) (fun _ _ _ h => h) (yieldsIf_load_mid (by rfl) 60 (.tmp 6) rfl G 0 rfl L6 _ (fun w h => h.1) Try.underlying60 rfl hi6) hS0 ?_
      refine wpAnyH_take (i := 2) (v := .agg L7.toArray) rfl (by kernel_rfl) (by kernel_rfl) (by kernel_rfl) (fun _ _ _ h => h) (yieldsIf_load_mid (by rfl) 60 (.tmp 7) rfl H 0 rfl L7 _ (fun w h => h.2) Try.underlying60 rfl hi7) hS0 ?_
      simp only [Act.put, List.setIfInBounds_toArray]
      refine wpAnyH_ready (rs := [1]) (by kernel_rfl) (by simp) ?_
      refine AllReadyH.cons rfl (fun K hK => ?_) AllReadyH.nil
      clear hS0
      have G6 := Lib.hid g6; clear g6
      have G7 := Lib.hid g7; clear g7
      have HI6 := Lib.hid hi6; clear hi6
      have HI7 := Lib.hid hi7; clear hi7
      have LEN6 := Lib.hid len6; clear len6
      have LEN7 := Lib.hid len7; clear len7
      go_simp
      refine (refset_of L6 _ A6.out _).mono ?_
      rintro e w6 ⟨r6, rfl, hr6, hb6⟩
      go_wp2_with fail
      refine hK.out _ _ ⟨range_below hb6 G6.out, range_below hb6 G7.out⟩ (fun hS1 => ?_)
      clear hK K
      refine wpAnyH_ready (rs := [3]) (by kernel_rfl) (by simp) ?_
      refine AllReadyH.cons rfl (fun K hK => ?_) AllReadyH.nil
      have HS1 := Lib.hid hS1; clear hS1
      go_simp
      refine (refset_of L7 _ A7.out _).mono ?_
      rintro e w7 ⟨r7, rfl, hr7, hb7⟩
      go_wp2_with fail
      refine hK.out _ _ ⟨range_below hb7 HS1.out.1, range_below hb7 HS1.out.2⟩ (fun hS2 => ?_)
      clear hK K
      refine wpAnyH_take (i := 4) (v := r6) rfl (by kernel_rfl) (by kernel_rfl) (by kernel_rfl) (fun _ _ _ h => h) (Or.inl ⟨by rfl, fun w _ => by go_simp⟩) hS2 ?_
      refine wpAnyH_take (i := 5) (v := r7) rfl (by kernel_rfl) (by kernel_rfl) (by kernel_rfl) (fun _ _ _ h => h) (Or.inl ⟨by rfl, fun w _ => by go_simp⟩) hS2 ?_
      refine ⟨by kernel_rfl, ?_⟩
      have hB6 := Below.step hbelD hbelD.size hb6
      have hB7 := Below.step hB6 hB6.size hb7
      have HX6 := Lib.hid (show OwnSp w7 _ r6 (setN st 2) from owns_below hr6 hb7)
      have HX7 := Lib.hid (show OwnSp w7 _ r7 (setN st 3) from hr7)
      have HMW := Lib.hid ((show MapAt wr.drew b st from HM.out).below hb6 |>.below hb7)
      clear hr6 hr7 hb6 hb7 hS2 HS1 HM hB6 hbelD hbel
      have hcl : countN st ≤ 1024 := by rw [countN_eq]; exact cntTo_le _ _ _
      have hsum := lenV_all hgood hN4
      have hn2 := lenV_le st 2 1024
      have hn3 := lenV_le st 3 1024
      have hl2 := setN_len st 2
      have hl3 := setN_len st 3
      obtain ⟨n2, hn2'⟩ : ∃ x, lenV' st 2 1024 = x := ⟨_, rfl⟩
      obtain ⟨n3, hn3'⟩ : ∃ x, lenV' st 3 1024 = x := ⟨_, rfl⟩
      obtain ⟨C, hC⟩ : ∃ x, countN st = x := ⟨_, rfl⟩
      rw [hn2', hn3', hC] at hsum
      rw [hn2'] at hn2 hl2
      rw [hn3'] at hn3 hl3
      rw [hC] at hcl
      have HC0 := Lib.hid hC; clear hC hn2' hn3'
      have hq : (((n2 : Int) + (n3 : Int) + (C : Int)) == (N : Int) - 4) = true := by rw [beq_iff_eq]; omega
      have HL2 := Lib.hid hl2; clear hl2
      have HL3 := Lib.hid hl3; clear hl3 hsum
      go_wp2_with fail
      refine (taken_any b st _ HMW.out).mono ?_
      rintro e w8 ⟨r8, rfl, hr8, hb8⟩
      have hB8 := Below.step hB7 hB7.size hb8
      have HM8 := Lib.hid (HMW.out.below hb8)
      have HX68 := Lib.hid (show OwnSp w8 _ r6 (setN st 2) from owns_below HX6.out hb8)
      have HX78 := Lib.hid (show OwnSp w8 _ r7 (setN st 3) from owns_below HX7.out hb8)
      have HR8 := Lib.hid hr8; clear hr8 hb8
      go_wp2_with fail
      refine (same_is true _ _ _ _ (decide_eq_true rfl) _ (setN_own HR8.out) (setN_own HX68.out)).mono ?_
      rintro e w9 ⟨rfl, hb9⟩
      have hB9 := Below.step hB8 hB8.size hb9
      have HM9 := Lib.hid (HM8.out.below hb9)
      have HX69 := Lib.hid (show OwnSp w9 _ r6 (setN st 2) from owns_below HX68.out hb9)
      have HX79 := Lib.hid (show OwnSp w9 _ r7 (setN st 3) from owns_below HX78.out hb9)
      clear hb9
      go_wp2_with fail
      refine (waiting_any b st _ HM9.out).mono ?_
      rintro e w10 ⟨r10, rfl, hr10, hb10⟩
      have hB10 := Below.step hB9 hB9.size hb10
      have HM10 := Lib.hid (HM9.out.below hb10)
      have HX610 := Lib.hid (show OwnSp w10 _ r6 (setN st 2) from owns_below HX69.out hb10)
      have HX710 := Lib.hid (show OwnSp w10 _ r7 (setN st 3) from owns_below HX79.out hb10)
      have HR10 := Lib.hid hr10; clear hr10 hb10
      go_wp2_with fail
      refine (same_is true _ _ _ _ (decide_eq_true rfl) _ (setN_own HR10.out) (setN_own HX710.out)).mono ?_
      rintro e w11 ⟨rfl, hb11⟩
      have hB11 := Below.step hB10 hB10.size hb11
      have HM11 := Lib.hid (HM10.out.below hb11)
      have HX611 := Lib.hid (setN_own HX610.out |>.below hb11)
      have HX711 := Lib.hid (setN_own HX710.out |>.below hb11)
      clear hb11
      go_wp2_with fail
      refine (reflist_any _ _ _ HX611.out (spansOf_right _)).mono ?_
      rintro e w12 ⟨r12, rfl, hr12, hb12⟩
      have hB12 := Below.step hB11 hB11.size hb12
      have HM12 := Lib.hid (HM11.out.below hb12)
      have HX712 := Lib.hid (HX711.out.below hb12)
      obtain ⟨a12, c12, rfl, _, _, _⟩ := hr12
      rw [HL2.out]
      clear hb12
      go_wp2_with fail
      refine (reflist_any _ _ _ HX712.out (spansOf_right _)).mono ?_
      rintro e w13 ⟨r13, rfl, hr13, hb13⟩
      have hB13 := Below.step hB12 hB12.size hb13
      have HM13 := Lib.hid (HM12.out.below hb13)
      obtain ⟨a13, c13, rfl, _, _, _⟩ := hr13
      rw [HL3.out]
      clear hb13
      go_wp2_with fail
      refine (count_map b st _ HM13.out).mono ?_
      rw [HC0.out]
      rintro e w14 ⟨rfl, rfl⟩
      go_wp2
      go_ret
      exact ⟨rfl, hB13⟩

theorem slabApart_holds : Rows.SlabApartSaid := slabApart_of slabApart_walk

end Go.Proofs.Ytaeklmnleampcaa
