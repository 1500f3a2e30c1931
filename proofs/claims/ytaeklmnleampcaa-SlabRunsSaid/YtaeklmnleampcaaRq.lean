/- The walk of the reference's Replay. -/
import Derived.Test.YtaeklmnleampcaaRp
namespace Go.Proofs.Ytaeklmnleampcaa
open Go.RowKit

def codeOf (o : Option (List (Int × Int))) : Int := if o.isSome = true then 0 else 81

theorem drop_at {ms : List MoveT} {k : Nat} (h : k < ms.length) : ms.drop k = ms[k] :: ms.drop (k + 1) := List.drop_eq_getElem_cons h

set_option maxRecDepth 100000 in
set_option maxHeartbeats 8000000 in
theorem refreplay_any (v u : Value) (l : List (Int × Int)) (ms : List MoveT) (w : World) (hv : SpanSl w v l) (hu : MoveSl w u ms) :
    Calls Try.prog 70 #[v, u] w fun e w' => ∃ r, e = .returned (.tuple #[r, .int .i64 (codeOf (replayS l ms))]) ∧ SpanSl w' r ((replayS l ms).getD []) ∧ Below w.heap.size w w' := by
  have HV := Lib.hid hv; clear hv
  obtain ⟨uo, ucap, rfl, hulen, huw, huc⟩ := hu
  have HU := Lib.hid huc; clear huc
  have HW := Lib.hid huw; clear huw
  obtain ⟨S, hS⟩ : ∃ S, S = replayS l ms := ⟨_, rfl⟩
  rw [← hS]
  have HS := Lib.hid hS; clear hS
  obtain ⟨r, hr⟩ : ∃ r, rightB l = r := ⟨_, rfl⟩
  have HR := Lib.hid hr; clear hr
  go_enter Try.func70, Try.ntmps70
  go_wp2_with fail
  refine (refright_is r _ l HR.out _ HV.out).mono ?_
  rintro e w1 ⟨rfl, hb1⟩
  cases r with
  | false =>
    have HN : Hid (S = none) := by unfold Hid; rw [HS.out]; unfold replayS; rw [HR.out]; rfl
    go_wp2
    refine bodyPost_ret (v := .tuple #[.slice none 0 0, .int .i64 81]) (by simp [results, Try.results70, go_sem]) rfl ⟨_, by rw [HN.out]; rfl, by rw [HN.out]; exact spanSl_nil _, hb1⟩
  | true =>
  obtain ⟨f, hf⟩ : ∃ f, f = bitsOf l := ⟨_, rfl⟩
  have HSF : Hid (S = (replayF f ms).map spansOf) := by unfold Hid; rw [HS.out, hf]; unfold replayS; rw [HR.out]; rfl
  have HF := Lib.hid hf; clear hf
  go_wp2_with fail
  refine (bits_any _ _ _ (HV.out.below hb1) HR.out).mono ?_
  rw [← HF.out]
  rintro e w2 ⟨rfl, hb2⟩
  have hB2 := Below.step hb1 hb1.size hb2
  have hz2 := hB2.size
  obtain ⟨Wa, hWa⟩ : ∃ W0, W0 = w2.alloc (.cells Try.zeroCells60 60) := ⟨_, rfl⟩
  have hra : RowAt Wa w2.heap.size 60 4096 (boolsF fun _ => false) := by rw [hWa, zero60]; exact RowAt.alloc _ _ _ _
  have hra' : RowAt (w2.alloc (.cells Try.zeroCells60 60)) w2.heap.size 60 4096 (boolsF fun _ => false) := by rw [← hWa]; exact hra
  have hsa : Wa.heap.size = w2.heap.size + 1 := by rw [hWa]; simp
  have hBa : Below w.heap.size w Wa := by rw [hWa]; exact hB2.alloc hz2 _
  go_wp2_with (refine wpList_store_row (o := ⟨none, .store 60 (.tmp 6) (.tmp 14), _, _, _, none⟩) rfl 60 (.tmp 6) (.tmp 14) rfl w2.heap.size rfl 4096 (boolsF f) (arrOf 4096 (boolsF f)) rfl rfl 60 (boolsF fun _ => false) hra' size60 (boolsF_one _) ?_)
  rw [← hWa]
  clear hra' hWa
  have hrb := hra.setRow (boolsF f)
  have hBb := Below.setRow hBa (g := w2.heap.size) hz2 (arrOf 4096 (boolsF f))
  obtain ⟨Wb, hWb⟩ : ∃ W, W = Wa.setRow w2.heap.size (arrOf 4096 (boolsF f)) := ⟨_, rfl⟩
  rw [← hWb] at hrb hBb ⊢
  clear hWb hra hBa hsa hb2 hb1
  go_loopw [17] (fun i wr => ∃ (k : Nat) (g : Nat → Bool), k ≤ ms.length ∧ i = .int .i64 k ∧ RowAt wr w2.heap.size 60 4096 (boolsF g) ∧ Hid (S = (replayF g (ms.drop k)).map spansOf) ∧ Below w.heap.size w wr)
    (fun i _ => ms.length - (intOf i).toNat)
  case atStart => exact ⟨0, f, Nat.zero_le _, rfl, hrb, HSF, hBb⟩
  case round =>
    clear hrb hBb
    obtain ⟨k, g, hk, rfl, hrr, HG, hbel⟩ := hrel
    have hsz := hbel.size
    by_cases hlt : k < ms.length
    · obtain ⟨b, o, rfl, hbs, hcell⟩ := HU.out (by intro h; simp [h] at hlt)
      obtain ⟨h1, h2, h3⟩ := move_cells hbs hcell hbel hlt
      clear hcell
      have hw := HW.out _ (List.getElem_mem hlt)
      have HD : Hid (ms.drop k = ms[k] :: ms.drop (k + 1)) := drop_at hlt
      obtain ⟨⟨t, s, n⟩, hx⟩ : ∃ x, x = ms[k] := ⟨_, rfl⟩
      rw [← hx] at h1 h2 h3 hw HD
      clear hx
      simp only at h1 h2 h3 hw
      have HWW := Lib.hid hw; clear hw
      obtain ⟨c, hc⟩ : ∃ c, singleB s n = c := ⟨_, rfl⟩
      have HC := Lib.hid hc; clear hc
      go_wp2_with fail
      obtain ⟨We, hWe⟩ : ∃ W0, W0 = wr.alloc (.cells #[.bool t, .int .i64 s, .int .i64 n] 99) := ⟨_, rfl⟩
      have p0 : We.cell? ⟨wr.heap.size, 0, none⟩ = some (.bool t) := by rw [hWe]; exact World.cell?_alloc_at _ _ _ _ rfl
      have p1 : We.cell? ⟨wr.heap.size, 1, none⟩ = some (.int .i64 s) := by rw [hWe]; exact World.cell?_alloc_at _ _ _ _ rfl
      have p2 : We.cell? ⟨wr.heap.size, 2, none⟩ = some (.int .i64 n) := by rw [hWe]; exact World.cell?_alloc_at _ _ _ _ rfl
      have hse : We.heap.size = wr.heap.size + 1 := by rw [hWe]; simp
      have hBe : Below w.heap.size w We := by rw [hWe]; exact hbel.alloc hsz _
      have hre : RowAt We w2.heap.size 60 4096 (boolsF g) := by rw [hWe]; exact hrr.alloc_old _
      have hlt2 := hrr.lt
      rw [← hWe]
      clear hWe hbel hrr h1 h2 h3
      obtain ⟨E, hE⟩ : ∃ E, E = wr.heap.size := ⟨_, rfl⟩
      rw [← hE] at p0 p1 p2 hse hlt2 hsz ⊢
      clear hE
      refine (refmright_any t s n HWW.out _).mono ?_
      rw [HC.out]
      rintro e w4 ⟨rfl, hb4⟩
      have hB4 := Below.step hBe hBe.size hb4
      have hr4 := hre.below hb4
      have q0 := (hb4.cell (p := ⟨E, 0, none⟩) (by show E < We.heap.size; omega)).trans p0
      have q1 := (hb4.cell (p := ⟨E, 1, none⟩) (by show E < We.heap.size; omega)).trans p1
      have q2 := (hb4.cell (p := ⟨E, 2, none⟩) (by show E < We.heap.size; omega)).trans p2
      have hs4 := hb4.size
      have hne : E ≠ w2.heap.size := by omega
      clear p0 p1 p2 hBe hre hb4
      cases c with
      | false =>
        have HN : Hid (S = none) := by unfold Hid; rw [HG.out, HD.out, replayF_bad HC.out]; rfl
        go_wp2
        refine bodyPost_ret (v := .tuple #[.slice none 0 0, .int .i64 81]) (by simp [results, Try.results70, go_sem]) rfl ⟨_, by rw [HN.out]; rfl, by rw [HN.out]; exact spanSl_nil _, hB4⟩
      | true =>
        obtain ⟨g1, g2, g3, g4⟩ := (singleB_iff s n).1 HC.out
        obtain ⟨a, rfl⟩ : ∃ a : Nat, s = (a : Int) := ⟨s.toNat, by omega⟩
        obtain ⟨m, rfl⟩ : ∃ a : Nat, n = (a : Int) := ⟨n.toNat, by omega⟩
        have HN0 : Hid (∀ j, j ≤ m → clashTo g a t j = true → S = none) := by
          intro j hj hcl
          rw [HG.out, HD.out, replayF_clash]
          · rfl
          · exact clashTo_mono hcl (by simpa using hj)
        have HN1 : Hid (clashTo g a t m = false → S = (replayF (putTo g a t m) (ms.drop (k + 1))).map spansOf) := by
          intro hcl
          rw [HG.out, HD.out, replayF_step HC.out (by simpa using hcl)]
          simp
        have w1' : IntKind.i64.wrap ((a : Int) + (m : Int)) = (a : Int) + (m : Int) := IntWalk.i64_in _ (by omega)
        go_wp2_with fail
        go_loopw [9] (fun i wr3 => ∃ (p j : Nat), p = a + j ∧ j ≤ m ∧ i = .int .i64 p ∧ RowAt wr3 w2.heap.size 60 4096 (boolsF (putTo g a t j)) ∧ Hid (clashTo g a t j = false) ∧ (wr3.cell? ⟨E, 0, none⟩ = some (.bool t) ∧ wr3.cell? ⟨E, 1, none⟩ = some (.int .i64 a) ∧ wr3.cell? ⟨E, 2, none⟩ = some (.int .i64 m)) ∧ E < wr3.heap.size ∧ Below w.heap.size w wr3)
          (fun i _ => a + m - (intOf i).toNat)
        case atStart => exact ⟨a, 0, rfl, Nat.zero_le _, rfl, hr4.congr (fun i _ => by simp only [boolsF]; rw [putTo_zero]), rfl, ⟨q0, q1, q2⟩, by omega, hB4⟩
        case round =>
          clear q0 q1 q2 hr4 hB4
          obtain ⟨p, j, hpj, hj, rfl, hr5, HJ, ⟨q0, q1, q2⟩, hlw, hB5⟩ := hrel
          by_cases hjl : j < m
          · have hlt5 : (p : Int) < (a : Int) + (m : Int) := by omega
            have hi1 : (p : Int) < (4096 : Int) := by omega
            have hi0 : (0 : Int) ≤ (p : Int) := by omega
            have hc5 := hr5.cell (i := p) (by omega)
            have hf5 := hr5.frozen p
            simp only [boolsF] at hc5
            rw [hpj, putTo_at, ← hpj] at hc5
            obtain ⟨y, hy⟩ : ∃ y, g p = y := ⟨_, rfl⟩
            rw [hy] at hc5
            have HY : Hid (clashTo g a t (j + 1) = (y == t)) := by
              unfold Hid
              rw [clashTo_succ, HJ.out, ← hpj, hy]; rfl
            clear hy
            have HPJ := Lib.hid hpj; clear hpj
            have hE0 : ∀ (W : World) (v : Value) (o : Nat), (W.setCell ⟨w2.heap.size, p, none⟩ v).cell? ⟨E, o, none⟩ = W.cell? ⟨E, o, none⟩ := fun W v o =>
              World.cell?_of_block (heap_setCell_other _ _ _ _ (by show E ≠ w2.heap.size; exact hne))
            have HE0 := Lib.hid hE0; clear hE0
            cases t <;> cases y
            case false.false | true.true =>
              have HN : Hid (S = none) := HN0.out (j + 1) (by omega) HY.out
              go_wp2_with (go_quiet (fail))
              refine bodyPost_ret (v := .tuple #[.slice none 0 0, .int .i64 81]) (by simp [results, Try.results70, go_sem]) rfl ⟨_, by rw [HN.out]; rfl, by rw [HN.out]; exact spanSl_nil _, by refine below_drewN ?_ _; exact hB5⟩
            all_goals
              have w5 : IntKind.i64.wrap ((p : Int) + 1) = (p : Int) + 1 := IntWalk.i64_in _ (by omega)
              go_wp2_with (go_quiet (fail))
              go_roundw
              case rel =>
                refine ⟨p + 1, j + 1, by have := HPJ.out; omega, by omega, by go_num, RowAt.setBool (w := wr.drewN _) hr5 p _ (fun n _ => by rw [putTo_next, ← HPJ.out]), HY.out,
                  ⟨(HE0.out (wr.drewN _) _ _).trans q0, (HE0.out (wr.drewN _) _ _).trans q1, (HE0.out (wr.drewN _) _ _).trans q2⟩,
                  Nat.lt_of_lt_of_le hlw (Below.size (B := w.heap.size) ((below_drewN (Below.refl _ wr) _).setCell (p := ⟨w2.heap.size, p, none⟩) hz2 _)), (below_drewN hB5 _).setCell (p := ⟨w2.heap.size, p, none⟩) hz2 _⟩
              case measure => simp [intOf]; omega
          · have hjm : j = m := by omega
            subst hjm
            have hge : ¬ (p : Int) < (a : Int) + (j : Int) := by omega
            have HS2 := HN1.out HJ.out
            have HS2 := Lib.hid HS2
            go_wp2
            go_roundw
            case rel => exact ⟨k + 1, putTo g a t j, by omega, by go_num, hr5, HS2, hB5⟩
            case measure => simp [intOf]; omega
    · obtain rfl : k = ms.length := by omega
      have HG2 : Hid (S = some (spansOf g)) := by unfold Hid; rw [HG.out, List.drop_length]; rfl
      go_wp2_with (first | (refine wpList_load_arr (o := ⟨some 49, .load 60 (.tmp 6), _, _, _, none⟩) rfl 60 (.tmp 6) rfl w2.heap.size rfl 4096 60 _ hrr _ Try.underlying60 rfl size60 ?_) | (go_at_call 59; refine (refset_any _ _).mono ?_; rintro e w3 ⟨v', rfl, hs, hb3⟩))
      refine bodyPost_ret (v := .tuple #[v', .int .i64 0]) (by simp [results, Try.results70, go_sem]) rfl ⟨_, by rw [HG2.out]; rfl, by rw [HG2.out]; exact hs, Below.step hbel hbel.size hb3⟩

end Go.Proofs.Ytaeklmnleampcaa
