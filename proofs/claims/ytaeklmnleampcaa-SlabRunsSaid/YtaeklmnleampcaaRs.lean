/- The walk of Replay. -/
import Derived.Test.YtaeklmnleampcaaRq
namespace Go.Proofs.Ytaeklmnleampcaa
open Go.RowKit

/-- One cell of an array by value. -/
theorem index60 (A : Array Value) (k : Nat) (b : Bool) (hk : k < 4096) (h : A[k]? = some (.bool b)) (w : World) :
    (Instr.index 60 (.agg A) (.int .i64 k)).run Try.prog w = .ok (.bool b) w := by
  simp [Instr.index, run_underlying Try.underlying60, asIntOf, part, Try.isAgg4, Try.sizeOf4, h, go_sem]
  omega

theorem listR_bits {l : List (Int × Int)} (h : rightB l = true) {n : Nat} (hn : n < 4096) : numsF (listR l) n = bitsOf l n := by
  rw [listR_right h]
  unfold numsF
  rw [Bool.eq_iff_iff, decide_eq_true_eq, listOf, mem_listTo]
  constructor
  · rintro ⟨_, _, h3⟩; simpa using h3
  · intro h3; exact ⟨by omega, by omega, by simpa using h3⟩

theorem listR_in {l : List (Int × Int)} (h : rightB l = true) {k : Nat} (hk : k < (listR l).length) : 0 ≤ (listR l)[k] ∧ (listR l)[k] < 4096 := by
  have hm : (listR l)[k] ∈ listOf (bitsOf l) := by rw [← listR_right h]; exact List.getElem_mem hk
  rw [listOf, mem_listTo] at hm
  exact ⟨hm.1, hm.2.1⟩

set_option maxRecDepth 100000 in
set_option maxHeartbeats 8000000 in
theorem replay_any (v u : Value) (l : List (Int × Int)) (ms : List MoveT) (w : World) (hv : SpanSl w v l) (hu : MoveSl w u ms) :
    Calls Try.prog 69 #[v, u] w fun e w' => ∃ r, e = .returned (.tuple #[r, .int .i64 (codeOf (replayS l ms))]) ∧ SpanSl w' r ((replayS l ms).getD []) ∧ Below w.heap.size w w' := by
  obtain ⟨i0, hi, hz0, hz1', hz2⟩ := info_parts Try.info3
  have HV := Lib.hid hv; clear hv
  obtain ⟨uo, ucap, rfl, hulen, huw, huc⟩ := hu
  have HU := Lib.hid huc; clear huc
  have HW := Lib.hid huw; clear huw
  obtain ⟨S, hS⟩ : ∃ S, S = replayS l ms := ⟨_, rfl⟩
  rw [← hS]
  have HS := Lib.hid hS; clear hS
  obtain ⟨r, hr⟩ : ∃ r, rightB l = r := ⟨_, rfl⟩
  have HR := Lib.hid hr; clear hr
  go_enter Try.func69, Try.ntmps69
  go_wp2_with fail
  refine (right_is r _ l HR.out _ HV.out).mono ?_
  rintro e w1 ⟨rfl, hb1⟩
  cases r with
  | false =>
    have HN : Hid (S = none) := by unfold Hid; rw [HS.out]; unfold replayS; rw [HR.out]; rfl
    go_wp2
    refine bodyPost_ret (v := .tuple #[.slice none 0 0, .int .i64 81]) (by simp [results, Try.results69, go_sem]) rfl ⟨_, by rw [HN.out]; rfl, by rw [HN.out]; exact spanSl_nil _, hb1⟩
  | true =>
  obtain ⟨f, hf⟩ : ∃ f, f = bitsOf l := ⟨_, rfl⟩
  have HSF : Hid (S = (replayF f ms).map spansOf) := by unfold Hid; rw [HS.out, hf]; unfold replayS; rw [HR.out]; rfl
  have HF := Lib.hid hf; clear hf
  have hz1 := hb1.size
  obtain ⟨Wa, hWa⟩ : ∃ W0, W0 = w1.alloc (.cells Try.zeroCells60 60) := ⟨_, rfl⟩
  have hra : RowAt Wa w1.heap.size 60 4096 (boolsF fun _ => false) := by rw [hWa, zero60]; exact RowAt.alloc _ _ _ _
  have hBa : Below w.heap.size w Wa := by rw [hWa]; exact hb1.alloc hz1 _
  go_wp2_with fail
  rw [← hWa]
  clear hWa
  refine (list_any _ l _ (HV.out.below hBa)).mono ?_
  rintro e w2 ⟨z, rfl, hz, hb2⟩
  have hB2 := Below.step hBa hBa.size hb2
  have hr2 := hra.below hb2
  obtain ⟨q, hq⟩ : ∃ q, q = listR l := ⟨_, rfl⟩
  rw [← hq] at hz
  have HIN : Hid (∀ k (hk : k < q.length), 0 ≤ q[k] ∧ q[k] < 4096) := by subst hq; exact fun k hk => listR_in HR.out hk
  have HQ : Hid (∀ n, n < 4096 → numsF q n = f n) := by subst hq; exact fun n hn => (listR_bits HR.out hn).trans (by rw [HF.out])
  clear hq
  obtain ⟨zo, zcap, rfl, hzlen, _, hzc⟩ := hz
  obtain ⟨b, o, HZ⟩ : ∃ b o, q ≠ [] → zo = some ⟨b, o, none⟩ ∧ b ≠ w1.heap.size ∧ ∀ j (h : j < q.length), w2.cell? ⟨b, o + j, none⟩ = some (.int .i64 q[j]) := by
    by_cases hqn : q = []
    · exact ⟨0, 0, fun h => absurd hqn h⟩
    · obtain ⟨b, o, h1, h2, h3⟩ := hzc hqn
      refine ⟨b, o, fun _ => ⟨h1, ?_, h3⟩⟩
      rintro rfl
      have h4 := h3 0 (Nat.pos_of_ne_zero fun h => hqn (List.eq_nil_of_length_eq_zero h))
      rw [cell_of_row w2 w1.heap.size _ _ 60 _ hr2, arrOf_get] at h4
      split at h4 <;> simp [boolsF] at h4
  have HZ1 : Hid (q ≠ [] → zo = some ⟨b, o, none⟩ ∧ b ≠ w1.heap.size) := fun h => ⟨(HZ h).1, (HZ h).2.1⟩
  have HZ2 : Hid (q ≠ [] → ∀ j (h : j < q.length), w2.cell? ⟨b, o + j, none⟩ = some (.int .i64 q[j])) := fun h => (HZ h).2.2
  clear HZ hzc
  go_wp2_with fail
  go_loopw [22] (fun i wr => ∃ (k : Nat), k ≤ q.length ∧ i = .int .i64 k ∧ RowAt wr w1.heap.size 60 4096 (boolsF (numsF (q.take k))) ∧ Hid (q ≠ [] → ∀ j (h : j < q.length), wr.cell? ⟨b, o + j, none⟩ = some (.int .i64 q[j])) ∧ Below w.heap.size w wr)
    (fun i _ => q.length - (intOf i).toNat)
  case atStart => exact ⟨0, Nat.zero_le _, rfl, hr2.congr (fun i _ => by simp [boolsF, numsF]), HZ2, hB2⟩
  case round =>
    clear hr2 HZ2 hB2
    obtain ⟨k, hk, rfl, hrr, HC4, hbel⟩ := hrel
    by_cases hlt : k < q.length
    · have hqn : q ≠ [] := by intro h; simp [h] at hlt
      obtain ⟨rfl, hbD⟩ := HZ1.out hqn
      have h1 := HC4.out hqn k hlt
      obtain ⟨n, hn⟩ : ∃ n : Nat, q[k] = (n : Int) := ⟨q[k].toNat, by have := HIN.out k hlt; omega⟩
      have hin := HIN.out k hlt
      have HN := Lib.hid hn
      rw [hn] at h1 hin
      clear hn hqn
      have hc1 := hrr.cell (i := n) (by omega)
      have hf1 := hrr.frozen n
      simp only [boolsF] at hc1
      have hi1 : (n : Int) < (4096 : Int) := by omega
      have hi0 : (0 : Int) ≤ (n : Int) := by omega
      go_wp2
      go_roundw
      case rel =>
        refine ⟨k + 1, by omega, by go_num, hrr.setBool n true (fun j hj => ?_), fun hh j hj => (World.cell?_of_block (heap_setCell_other _ _ _ _ (by show b ≠ w1.heap.size; exact hbD))).trans (HC4.out hh j hj), hbel.setCell (p := ⟨w1.heap.size, n, none⟩) hz1 _⟩
        rw [numsF_take hlt, HN.out]
        by_cases hjn : j = n
        · subst hjn; simp
        · rw [if_neg hjn, decide_eq_false (by omega), Bool.or_false]
      case measure => simp [intOf]; omega
    · obtain rfl : k = q.length := by omega
      rw [List.take_length] at hrr
      have hrb : RowAt wr w1.heap.size 60 4096 (boolsF f) := hrr.congr (fun n hn => by simp only [boolsF]; rw [HQ.out n hn])
      go_wp2_with fail
      go_loopw [31] (fun i wr => ∃ (k : Nat) (g : Nat → Bool), k ≤ ms.length ∧ i = .int .i64 k ∧ RowAt wr w1.heap.size 60 4096 (boolsF g) ∧ Hid (S = (replayF g (ms.drop k)).map spansOf) ∧ Below w.heap.size w wr)
        (fun i _ => ms.length - (intOf i).toNat)
      case atStart => exact ⟨0, f, Nat.zero_le _, rfl, hrb, HSF, hbel⟩
      case round =>
        clear hrb hbel hrr hlt hk
        obtain ⟨k, g, hk, rfl, hrr, HG, hbel⟩ := hrel
        have hsz := hbel.size
        by_cases hlt : k < ms.length
        · obtain ⟨b, o, rfl, hbs, hcell⟩ := HU.out (by intro h; simp [h] at hlt)
          obtain ⟨h1, h2, h3⟩ := move_cells hbs hcell hbel hlt
          clear hcell
          have hw := HW.out _ (List.getElem_mem hlt)
          have HD : Hid (ms.drop k = ms[k] :: ms.drop (k + 1)) := drop_at hlt
          obtain ⟨⟨t, s, n⟩, hx⟩ : ∃ x, x = ms[k] := ⟨_, rfl⟩
          rw [← hx] at h1 h2 h3 hw HD
          clear hx
          simp only at h1 h2 h3 hw
          have HWW := Lib.hid hw; clear hw
          obtain ⟨c, hc⟩ : ∃ c, singleB s n = c := ⟨_, rfl⟩
          have HC := Lib.hid hc; clear hc
          go_wp2_with fail
          obtain ⟨We, hWe⟩ : ∃ W0, W0 = wr.alloc (.cells #[.bool t, .int .i64 s, .int .i64 n] 99) := ⟨_, rfl⟩
          have p0 : We.cell? ⟨wr.heap.size, 0, none⟩ = some (.bool t) := by rw [hWe]; exact World.cell?_alloc_at _ _ _ _ rfl
          have p1 : We.cell? ⟨wr.heap.size, 1, none⟩ = some (.int .i64 s) := by rw [hWe]; exact World.cell?_alloc_at _ _ _ _ rfl
          have p2 : We.cell? ⟨wr.heap.size, 2, none⟩ = some (.int .i64 n) := by rw [hWe]; exact World.cell?_alloc_at _ _ _ _ rfl
          have hse : We.heap.size = wr.heap.size + 1 := by rw [hWe]; simp
          have hBe : Below w.heap.size w We := by rw [hWe]; exact hbel.alloc hsz _
          have hre : RowAt We w1.heap.size 60 4096 (boolsF g) := by rw [hWe]; exact hrr.alloc_old _
          have hlt2 := hrr.lt
          rw [← hWe]
          clear hWe hbel hrr h1 h2 h3
          obtain ⟨E, hE⟩ : ∃ E, E = wr.heap.size := ⟨_, rfl⟩
          rw [← hE] at p0 p1 p2 hse hlt2 hsz ⊢
          clear hE
          refine (mright_any t s n HWW.out _).mono ?_
          rw [HC.out]
          rintro e w4 ⟨rfl, hb4⟩
          have hB4 := Below.step hBe hBe.size hb4
          have hr4 := hre.below hb4
          have q0 := (hb4.cell (p := ⟨E, 0, none⟩) (by show E < We.heap.size; omega)).trans p0
          have q1 := (hb4.cell (p := ⟨E, 1, none⟩) (by show E < We.heap.size; omega)).trans p1
          have q2 := (hb4.cell (p := ⟨E, 2, none⟩) (by show E < We.heap.size; omega)).trans p2
          have hs4 := hb4.size
          have hne : E ≠ w1.heap.size := by omega
          clear p0 p1 p2 hBe hre hb4
          cases c with
          | false =>
            have HN : Hid (S = none) := by unfold Hid; rw [HG.out, HD.out, replayF_bad HC.out]; rfl
            go_wp2
            refine bodyPost_ret (v := .tuple #[.slice none 0 0, .int .i64 81]) (by simp [results, Try.results69, go_sem]) rfl ⟨_, by rw [HN.out]; rfl, by rw [HN.out]; exact spanSl_nil _, hB4⟩
          | true =>
            obtain ⟨g1, g2, g3, g4⟩ := (singleB_iff s n).1 HC.out
            obtain ⟨a, rfl⟩ : ∃ a : Nat, s = (a : Int) := ⟨s.toNat, by omega⟩
            obtain ⟨m, rfl⟩ : ∃ a : Nat, n = (a : Int) := ⟨n.toNat, by omega⟩
            have HN0 : Hid (∀ j, j ≤ m → clashTo g a t j = true → S = none) := by
              intro j hj hcl
              rw [HG.out, HD.out, replayF_clash]
              · rfl
              · exact clashTo_mono hcl (by simpa using hj)
            have HN1 : Hid (clashTo g a t m = false → S = (replayF (putTo g a t m) (ms.drop (k + 1))).map spansOf) := by
              intro hcl
              rw [HG.out, HD.out, replayF_step HC.out (by simpa using hcl)]
              simp
            have w1' : IntKind.i64.wrap ((a : Int) + (m : Int)) = (a : Int) + (m : Int) := IntWalk.i64_in _ (by omega)
            go_wp2_with fail
            go_loopw [41] (fun i wr3 => ∃ (p j : Nat), p = a + j ∧ j ≤ m ∧ i = .int .i64 j ∧ RowAt wr3 w1.heap.size 60 4096 (boolsF (putTo g a t j)) ∧ Hid (clashTo g a t j = false) ∧ (wr3.cell? ⟨E, 0, none⟩ = some (.bool t) ∧ wr3.cell? ⟨E, 1, none⟩ = some (.int .i64 a) ∧ wr3.cell? ⟨E, 2, none⟩ = some (.int .i64 m)) ∧ E < wr3.heap.size ∧ Below w.heap.size w wr3)
              (fun i _ => m - (intOf i).toNat)
            case atStart => exact ⟨a, 0, rfl, Nat.zero_le _, rfl, hr4.congr (fun i _ => by simp only [boolsF]; rw [putTo_zero]), rfl, ⟨q0, q1, q2⟩, by omega, hB4⟩
            case round =>
              clear q0 q1 q2 hr4 hB4
              obtain ⟨p, j, hpj, hj, rfl, hr5, HJ, ⟨q0, q1, q2⟩, hlw, hB5⟩ := hrel
              by_cases hjl : j < m
              · have hlt5 : (j : Int) < (m : Int) := by omega
                have w6 : IntKind.i64.wrap ((a : Int) + (j : Int)) = (p : Int) := by rw [IntWalk.i64_in _ (by omega)]; omega
                have hi1 : (p : Int) < (4096 : Int) := by omega
                have hi0 : (0 : Int) ≤ (p : Int) := by omega
                have hc5 := hr5.cell (i := p) (by omega)
                have hf5 := hr5.frozen p
                simp only [boolsF] at hc5
                rw [hpj, putTo_at, ← hpj] at hc5
                obtain ⟨y, hy⟩ : ∃ y, g p = y := ⟨_, rfl⟩
                rw [hy] at hc5
                have HY : Hid (clashTo g a t (j + 1) = (y == t)) := by
                  unfold Hid
                  rw [clashTo_succ, HJ.out, ← hpj, hy]; rfl
                clear hy
                have HPJ := Lib.hid hpj; clear hpj
                have hE0 : ∀ (W : World) (v : Value) (o : Nat), (W.setCell ⟨w1.heap.size, p, none⟩ v).cell? ⟨E, o, none⟩ = W.cell? ⟨E, o, none⟩ := fun W v o =>
                  World.cell?_of_block (heap_setCell_other _ _ _ _ (by show E ≠ w1.heap.size; exact hne))
                have HE0 := Lib.hid hE0; clear hE0
                cases t <;> cases y
                case false.false | true.true =>
                  have HN : Hid (S = none) := HN0.out (j + 1) (by omega) HY.out
                  go_wp2_with (go_quiet (fail))
                  refine bodyPost_ret (v := .tuple #[.slice none 0 0, .int .i64 81]) (by simp [results, Try.results69, go_sem]) rfl ⟨_, by rw [HN.out]; rfl, by rw [HN.out]; exact spanSl_nil _, by refine below_drewN ?_ _; exact hB5⟩
                all_goals
                  have w5 : IntKind.i64.wrap ((j : Int) + 1) = (j : Int) + 1 := IntWalk.i64_in _ (by omega)
                  go_wp2_with (go_quiet (fail))
                  go_roundw
                  case rel =>
                    refine ⟨p + 1, j + 1, by have := HPJ.out; omega, by omega, by go_num, RowAt.setBool (w := wr.drewN _) hr5 p _ (fun n _ => by rw [putTo_next, ← HPJ.out]), HY.out,
                      ⟨(HE0.out (wr.drewN _) _ _).trans q0, (HE0.out (wr.drewN _) _ _).trans q1, (HE0.out (wr.drewN _) _ _).trans q2⟩,
                      Nat.lt_of_lt_of_le hlw (Below.size (B := w.heap.size) ((below_drewN (Below.refl _ wr) _).setCell (p := ⟨w1.heap.size, p, none⟩) hz1 _)), (below_drewN hB5 _).setCell (p := ⟨w1.heap.size, p, none⟩) hz1 _⟩
                  case measure => simp [intOf]; omega
              · have hjm : j = m := by omega
                subst hjm
                have hge : ¬ (j : Int) < (j : Int) := by omega
                have HS2 := HN1.out HJ.out
                have HS2 := Lib.hid HS2
                go_wp2
                go_roundw
                case rel => exact ⟨k + 1, putTo g a t j, by omega, by go_num, hr5, HS2, hB5⟩
                case measure => simp [intOf]; omega
        · obtain rfl : k = ms.length := by omega
          have HG2 : Hid (S = some (spansOf g)) := by unfold Hid; rw [HG.out, List.drop_length]; rfl
          have hrr' := hrr
          go_wp2_with (refine wpList_load_arr (o := ⟨some 61, .load 60 (.tmp 6), _, _, _, none⟩) rfl 60 (.tmp 6) rfl w1.heap.size rfl 4096 60 _ hrr' _ Try.underlying60 rfl size60 ?_)
          obtain ⟨A, hA⟩ : ∃ A, A = arrOf 4096 (boolsF g) := ⟨_, rfl⟩
          have HA : Hid (∀ k, k < 4096 → A[k]? = some (.bool (g k))) := by intro k hk; rw [hA, arrOf_get, if_pos hk]; rfl
          have hAs : A.size = 4096 := by rw [hA, arrOf_size]
          rw [← hA]
          clear hA hrr'
          have hown0 := World.ownsRow_nil wr w.heap.size 3 1
          go_loopw [13, 62] (fun x i wr => ∃ (k : Nat), k ≤ 4096 ∧ i = .int .i64 k ∧ wr.ownsRow w.heap.size 3 1 x (listTo g k).length ((listTo g k).map (Value.int .i64)) ∧ Below w.heap.size w wr)
            (fun _ i _ => 4096 - (intOf i).toNat)
          case atStart => exact ⟨0, Nat.zero_le _, rfl, hown0, hbel⟩
          case round =>
            clear hown0 hbel hrr
            obtain ⟨k, hk, rfl, hown, hbel⟩ := hrel
            have hsz := hbel.size
            by_cases hlt : k < 4096
            · have hi1 : (k : Int) < (4096 : Int) := by omega
              have hle := listTo_length_le g k
              have hAk := HA.out k hlt
              by_cases hf : g k = true
              · rw [hf] at hAk
                have hix := index60 A k true hlt hAk
                have HS5 : Hid (listTo g (k + 1) = listTo g k ++ [(k : Int)]) := by unfold Hid; rw [listTo_succ, if_pos hf]
                clear hf
                have HLT := Lib.hid hown.lt
                go_wp2_with (first | (at_builtin; refine wpList_append_own _ rfl _ _ 23 rfl w.heap.size 3 i0 (.int .i64 0) 1 8 Try.underlying23 hi hz0 hz1' hz2 rfl (by decide) _ _ _ rfl (hown.alloc _) ⟨wr.heap.size, 0, none⟩ 1 1 [.int .i64 k] rfl rfl (cell_one_new _ _ _) (by simp [Value.oneCell']) (by unfold maxLen; omega) (by omega) (by simp; omega) ?_; intro v' w2 hown' hgrow _))
                go_roundw
                case rel =>
                  refine ⟨k + 1, by omega, by go_num, ?_, (hbel.alloc (by omega) _).grown hgrow (by simp; omega) (fun j h => (HLT.out j h).1)⟩
                  rw [HS5.out, List.length_append, List.map_append]
                  exact hown'
                case measure => simp [intOf]; omega
              · have hf' : g k = false := by simpa using hf
                rw [hf'] at hAk
                have hix := index60 A k false hlt hAk
                have HS5 : Hid (listTo g (k + 1) = listTo g k) := by unfold Hid; rw [listTo_succ, if_neg hf]
                clear hf hf'
                go_wp2
                go_roundw
                case rel => exact ⟨k + 1, by omega, by go_num, by rw [HS5.out]; exact hown, hbel⟩
                case measure => simp [intOf]; omega
            · obtain rfl : k = 4096 := by omega
              have hx := intSl_of_owns hown (listTo_wf g 4096 (Nat.le_refl _)) (Nat.le_trans (listTo_length_le g 4096) (by omega))
              have HX := Lib.hid hx
              clear hown hx
              go_wp2_with fail
              refine (of_any _ _ _ HX.out).mono ?_
              have hE : spansOf (numsF (listTo g 4096)) = spansOf g := spansOf_congr fun n hn => by
                unfold numsF
                rw [Bool.eq_iff_iff, decide_eq_true_eq, mem_listTo]
                constructor
                · rintro ⟨_, _, h3⟩; simpa using h3
                · intro h3; exact ⟨by omega, by omega, by simpa using h3⟩
              rw [hE]
              clear hE
              rintro e w5 ⟨y, rfl, hy, hb5⟩
              have hB5 := Below.step hbel hsz hb5
              go_wp2
              refine bodyPost_ret (v := .tuple #[y, .int .i64 0]) (by simp [results, Try.results69, go_sem]) rfl ⟨_, by rw [HG2.out]; rfl, by rw [HG2.out]; exact hy, hB5⟩

end Go.Proofs.Ytaeklmnleampcaa
