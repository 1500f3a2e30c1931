/- Walk of the reference's Read. -/
import Derived.Test.YtaeklmnleampcaaFg
namespace Go.Proofs.Ytaeklmnleampcaa
open Go.RowKit

set_option maxRecDepth 100000 in
set_option maxHeartbeats 1600000 in
theorem value_is (c o cap : Nat) (x y : Nat) (s : Int) (hs : (x : Int) + 256 * (y : Int) = s) (hx : x < 256) (hy : y < 256) (w : World) (h0 : w.cell? ⟨c, o, none⟩ = some (.int .u8 x)) (h1 : w.cell? ⟨c, o + 1, none⟩ = some (.int .u8 y)) :
    Calls Try.prog 89 #[.slice (some ⟨c, o, none⟩) 2 cap] w fun e w' => e = .returned (.int .u64 s) ∧ w = w' := by
  have HS := Lib.hid hs; clear hs
  go_enter Try.func89, Try.ntmps89
  go_wp2_with fail
  refine wp_loop_rounds 3 ?_
  rw [rounds_succ]; go_wp2_with fail
  rw [rounds_succ]; go_wp2_with fail
  rw [rounds_succ]; go_wp2_with fail
  go_ret
  refine ⟨?_, rfl⟩
  show Ending.returned (.int .u64 ((y : Int) * 256 + (x : Int))) = _
  rw [show (y : Int) * 256 + (x : Int) = (x : Int) + 256 * (y : Int) from by omega, HS.out]

/-- Two bytes out of many. -/
theorem two_part (b o p d n c : Nat) (hn : p + d + 2 ≤ n) (hc : n ≤ c) (W : World) : (Instr.slice 86 (.slice (some ⟨b, o, none⟩) n c) (some (.int .i64 ((p : Int) + (d : Int)))) (some (.int .i64 ((p : Int) + (d : Int) + 2))) none).run Try.prog W = .ok (.slice (some ⟨b, o + p + d, none⟩) 2 (c - (p + d))) W := by
  rw [run_slice_lh W 86 _ n c und86 .i64 .i64 _ _ (by omega) (by omega) (by omega), sub5]
  simp only [sliced]
  rw [show ((p : Int) + (d : Int)).toNat = p + d from by omega, show ((p : Int) + (d : Int) + 2).toNat = p + d + 2 from by omega, if_neg (by omega)]
  rw [show p + d + 2 - (p + d) = 2 from by omega]
  simp [Addr.add, Nat.add_assoc]

theorem two_part1 (b o p n c : Nat) (hn : p + 3 ≤ n) (hc : n ≤ c) (W : World) : (Instr.slice 86 (.slice (some ⟨b, o, none⟩) n c) (some (.int .i64 ((p : Int) + 1))) (some (.int .i64 ((p : Int) + 3))) none).run Try.prog W = .ok (.slice (some ⟨b, o + p + 1, none⟩) 2 (c - (p + 1))) W := by
  have h := two_part b o p 1 n c (by omega) hc W
  rw [show (p : Int) + ((1 : Nat) : Int) + 2 = (p : Int) + 3 from by omega] at h
  exact h

theorem two_part3 (b o p n c : Nat) (hn : p + 5 ≤ n) (hc : n ≤ c) (W : World) : (Instr.slice 86 (.slice (some ⟨b, o, none⟩) n c) (some (.int .i64 ((p : Int) + 3))) (some (.int .i64 ((p : Int) + 5))) none).run Try.prog W = .ok (.slice (some ⟨b, o + p + 3, none⟩) 2 (c - (p + 3))) W := by
  have h := two_part b o p 3 n c (by omega) hc W
  rw [show (p : Int) + ((3 : Nat) : Int) + 2 = (p : Int) + 5 from by omega] at h
  exact h

set_option maxRecDepth 100000 in
set_option maxHeartbeats 8000000 in
theorem refread_any (u : Value) (bs : List Int) (w : World) (hu : IntSl .u8 w u bs) (hcap : CapOk u) :
    Calls Try.prog 74 #[u] w fun e w' => ∃ r, e = .returned (.tuple #[r, .int .i64 (codeB (readS bs))]) ∧ MoveSl w' r ((readS bs).getD []) ∧ Below w.heap.size w w' := by
  obtain ⟨i0, hi, hz0, hz1', hz2⟩ := info_parts Try.info99
  obtain ⟨ao, cap, rfl, hulen, hwf, hcc⟩ := hu
  have hcl : bs.length ≤ cap := by
    obtain ⟨a, n, c, h, hn⟩ := hcap
    simp only [Value.slice.injEq] at h
    omega
  clear hcap
  have HU := Lib.hid hcc; clear hcc
  have HWF := Lib.hid hwf; clear hwf
  obtain ⟨S, hS⟩ : ∃ S, S = readS bs := ⟨_, rfl⟩
  rw [← hS]
  have HS := Lib.hid hS; clear hS
  have hB0 := Below.refl w.heap.size w
  by_cases hm : bs.length % 5 = 0
  case neg =>
    have HN : Hid (S = none) := by unfold Hid; rw [HS.out, readS_size (fun h => hm h.1)]
    have hq : ((bs.length : Int) % 5 != 0) = true := by rw [bne_iff_ne]; omega
    clear hm
    go_enter Try.func74, Try.ntmps74
    go_wp2
    refine bodyPost_ret (v := .tuple #[.slice none 0 0, .int .i64 81]) (by simp [results, Try.results74, go_sem]) rfl ⟨_, by rw [HN.out]; rfl, by rw [HN.out]; exact moveSl_nil _, hB0⟩
  case pos =>
  have hq : ((bs.length : Int) % 5 != 0) = false := by
    have : (bs.length : Int) % 5 = 0 := by omega
    rw [this]; rfl
  by_cases hlong : ¬ bs.length ≤ 20480
  · have HN : Hid (S = none) := by unfold Hid; rw [HS.out, readS_size (fun h => hlong h.2)]
    have hl : (20480 : Int) < (bs.length : Int) := by omega
    clear hm
    go_enter Try.func74, Try.ntmps74
    go_wp2
    refine bodyPost_ret (v := .tuple #[.slice none 0 0, .int .i64 81]) (by simp [results, Try.results74, go_sem]) rfl ⟨_, by rw [HN.out]; rfl, by rw [HN.out]; exact moveSl_nil _, hB0⟩
  have hl4 : bs.length ≤ 20480 := by omega
  have hl : ¬ (20480 : Int) < (bs.length : Int) := by omega
  clear hlong
  obtain ⟨K, hK⟩ : ∃ K, K = bs.length / 5 := ⟨_, rfl⟩
  have HK := Lib.hid hK
  have hK5 : 5 * K = bs.length := by omega
  have HK5 := Lib.hid hK5; clear hK5
  have hKi : (bs.length : Int) / 5 = (K : Int) := by omega
  have hK4 : K ≤ 4096 := by omega
  clear hK
  have HM := Lib.hid hm; clear hm
  go_enter Try.func74, Try.ntmps74
  obtain ⟨w2, hw2⟩ : ∃ W, W = w.alloc (.cells #[] 99) := ⟨_, rfl⟩
  have hown2 : w2.ownsRow w.heap.size 99 3 (.slice (some ⟨w.heap.size, 0, none⟩) 0 0) 0 [] := by rw [hw2]; exact World.ownsRow_lit (e := 99) (size := 3) (base := w.heap.size) w #[] 0 (Nat.le_refl _) (by simp) rfl
  have hB2 : Below w.heap.size w w2 := by rw [hw2]; exact (Below.refl _ _).alloc (Nat.le_refl _) _
  clear hKi
  go_wp2_with fail
  rw [← hw2]
  clear hw2
  go_loopw [4, 5] (fun v i wr => ∃ (k p : Nat), k ≤ K ∧ i = .int .i64 p ∧ p = 5 * k ∧ wr.ownsRow w.heap.size 99 3 v ((List.range k).map (decM bs)).length (moveCells ((List.range k).map (decM bs))) ∧ Hid (∀ j, j < k → okB bs j = true) ∧ Below w.heap.size w wr)
    (fun _ i _ => bs.length - (intOf i).toNat)
  case atStart => exact ⟨0, 0, Nat.zero_le _, rfl, rfl, hown2, fun j h => absurd h (Nat.not_lt_zero _), hB2⟩
  case round =>
    clear hown2 hB2
    obtain ⟨k, p, hk, rfl, hp, hown, HOK, hbel⟩ := hrel
    have HP := Lib.hid hp; clear hp
    have hsz := hbel.size
    by_cases hlt : p < bs.length
    · have hkK : k < K := by have := HK5.out; have := HP.out; omega
      have hp5 : p + 5 ≤ bs.length := by have := HK5.out; have := HP.out; omega
      obtain ⟨b, o, rfl, hbs, hcell⟩ := HU.out (by intro h; simp [h] at hlt)
      obtain ⟨x0, x1, x2, x3, x4, ⟨l0, l1, l2, l3, l4⟩, hc5, hd, hokb⟩ := five_at HWF.out hcell (k := k) (by have := HP.out; omega)
      rw [← HP.out] at hc5
      clear hcell
      have hc6 := five_below hc5 hbs hbel
      clear hc5
      have HD := Lib.hid hd; clear hd
      have HOKB := Lib.hid hokb; clear hokb
      have hr1 := two_part1 b o p bs.length cap (by omega) hcl
      have hr2 := two_part3 b o p bs.length cap (by omega) hcl
      have hs1 : IntKind.i64.wrap ((p : Int) + 1) = (p : Int) + 1 := IntWalk.i64_in _ (by omega)
      have hs3 : IntKind.i64.wrap ((p : Int) + 3) = (p : Int) + 3 := IntWalk.i64_in _ (by omega)
      have hs5 : IntKind.i64.wrap ((p : Int) + 5) = (p : Int) + 5 := IntWalk.i64_in _ (by omega)
      have hi0 : (0 : Int) ≤ (p : Int) := by omega
      have hi1 : (p : Int) < (bs.length : Int) := by omega
      have hi2 : (0 : Int) ≤ (p : Int) + 1 := by omega
      have hi3 : (p : Int) + 1 ≤ (p : Int) + 3 := by omega
      have hi4 : (p : Int) + 3 ≤ (cap : Int) := by omega
      have hi5 : (0 : Int) ≤ (p : Int) + 3 := by omega
      have hi6 : (p : Int) + 3 ≤ (p : Int) + 5 := by omega
      have hi7 : (p : Int) + 5 ≤ (cap : Int) := by omega
      obtain ⟨q0, q1, q2, q3, q4⟩ := hc6
      have hne0 := World.new_ne wr ⟨b, o + p, none⟩ q0
      obtain ⟨tb, htb⟩ : ∃ tb, ((x0 : Int) == 1) = tb := ⟨_, rfl⟩
      obtain ⟨s, hs⟩ : ∃ s, (x1 : Int) + 256 * (x2 : Int) = s := ⟨_, rfl⟩
      obtain ⟨m, hm⟩ : ∃ s, (x3 : Int) + 256 * (x4 : Int) = s := ⟨_, rfl⟩
      have hsi : 0 ≤ s ∧ s < 65536 := by omega
      have hmi : 0 ≤ m ∧ m < 65536 := by omega
      have HD2 : Hid (decM bs k = (tb, s, m)) := by unfold Hid; rw [HD.out, htb, hs, hm]
      have HO2 : Hid (okB bs k = (decide (x0 ≤ 1) && singleB s m)) := by unfold Hid; rw [HOKB.out, hs, hm]
      have HS1 := Lib.hid hs; clear hs
      have HM1 := Lib.hid hm; clear hm
      have hws : IntKind.i64.wrap s = s := IntWalk.i64_in _ (by omega)
      have hwm : IntKind.i64.wrap m = m := IntWalk.i64_in _ (by omega)
      go_wp2_with fail
      go_region_held3 (fun W => W.cell? ⟨b, o + p, none⟩ = some (.int .u8 (x0 : Int)) ∧ W.cell? ⟨b, o + p + 1, none⟩ = some (.int .u8 (x1 : Int)) ∧ W.cell? ⟨b, o + p + 2, none⟩ = some (.int .u8 (x2 : Int)) ∧ W.cell? ⟨b, o + p + 3, none⟩ = some (.int .u8 (x3 : Int)) ∧ W.cell? ⟨b, o + p + 4, none⟩ = some (.int .u8 (x4 : Int))) (go_keep)
        (first
          | (go_at_call 89; (with_reducible refine (value_is b (o + p + 1) _ x1 x2 s HS1.out l1 l2 _ ?_ ?_).mono ?_); (first | assumption | (go_split_ands; assumption)); (first | assumption | (go_split_ands; assumption)); rintro e w6 ⟨rfl, rfl⟩)
          | (go_at_call 89; (with_reducible refine (value_is b (o + p + 3) _ x3 x4 m HM1.out l3 l4 _ ?_ ?_).mono ?_); (first | assumption | (go_split_ands; assumption)); (first | assumption | (go_split_ands; assumption)); rintro e w6 ⟨rfl, rfl⟩))
      all_goals
        obtain ⟨We, hWe⟩ : ∃ W0, W0 = (wr.alloc (.cells #[.bool tb, .int .i64 s, .int .i64 m] 99)).drew := ⟨_, rfl⟩
        have p0 : We.cell? ⟨wr.heap.size, 0, none⟩ = some (.bool tb) := by rw [hWe]; exact World.cell?_alloc_at _ _ _ _ rfl
        have p1 : We.cell? ⟨wr.heap.size, 1, none⟩ = some (.int .i64 s) := by rw [hWe]; exact World.cell?_alloc_at _ _ _ _ rfl
        have p2 : We.cell? ⟨wr.heap.size, 2, none⟩ = some (.int .i64 m) := by rw [hWe]; exact World.cell?_alloc_at _ _ _ _ rfl
        have hse : We.heap.size = wr.heap.size + 1 := by rw [hWe]; simp
        have hBe : Below w.heap.size w We := by rw [hWe]; exact (hbel.alloc hbel.size _).drew
        have howe := (hown.alloc (.cells #[.bool tb, .int .i64 s, .int .i64 m] 99)).drew
        have k0 : We.cell? ⟨b, o + p, none⟩ = some (.int .u8 (x0 : Int)) := by rw [hWe]; exact ((((Below.refl wr.heap.size wr).alloc (Nat.le_refl _) (.cells #[.bool tb, .int .i64 s, .int .i64 m] 99)).drew).cell (p := ⟨b, o + p, none⟩) (Nat.lt_of_lt_of_le hbs hbel.size)).trans q0
        rw [← hWe] at howe
        rw [← hWe]
        clear hWe hbel hown hne0 q0 q1 q2 q3 q4 htb hr1 hr2 hs1 hs3
        obtain ⟨E, hE⟩ : ∃ E, E = wr.heap.size := ⟨_, rfl⟩
        rw [← hE] at p0 p1 p2 hse hsz ⊢
        clear hE
        by_cases hx0 : 1 < x0
        · have HN2 : Hid (S = none) := by unfold Hid; rw [HS.out]; exact readS_bad (by rw [← HK.out]; exact hkK) (by rw [HO2.out, decide_eq_false (by omega)]; rfl)
          have hx0' : (1 : Int) < (x0 : Int) := by omega
          go_wp2
          refine bodyPost_ret (v := .tuple #[.slice none 0 0, .int .i64 81]) (by simp [results, Try.results74, go_sem]) rfl ⟨_, by rw [HN2.out]; rfl, by rw [HN2.out]; exact moveSl_nil _, hBe⟩
        have hx0' : ¬ (1 : Int) < (x0 : Int) := by omega
        have hx1 : decide (x0 ≤ 1) = true := decide_eq_true (by omega)
        have HX1 := Lib.hid hx1; clear hx1
        obtain ⟨cc, hcc⟩ : ∃ c, singleB s m = c := ⟨_, rfl⟩
        have HC := Lib.hid hcc; clear hcc
        go_wp2_with fail
        refine (refmright_any tb s m (by unfold inI64; omega) _).mono ?_
        rw [HC.out]
        rintro e w7 ⟨rfl, hb7⟩
        have hB7 := Below.step hBe hBe.size hb7
        have how7 := owns_below howe hb7
        have q0 := (hb7.cell (p := ⟨E, 0, none⟩) (by show E < We.heap.size; omega)).trans p0
        have q1 := (hb7.cell (p := ⟨E, 1, none⟩) (by show E < We.heap.size; omega)).trans p1
        have q2 := (hb7.cell (p := ⟨E, 2, none⟩) (by show E < We.heap.size; omega)).trans p2
        clear p0 p1 p2 hBe howe hb7 hse k0
        cases cc with
        | false =>
          have HN2 : Hid (S = none) := by unfold Hid; rw [HS.out]; exact readS_bad (by rw [← HK.out]; exact hkK) (by rw [HO2.out, HC.out]; simp)
          go_wp2
          refine bodyPost_ret (v := .tuple #[.slice none 0 0, .int .i64 81]) (by simp [results, Try.results74, go_sem]) rfl ⟨_, by rw [HN2.out]; rfl, by rw [HN2.out]; exact moveSl_nil _, hB7⟩
        | true =>
          have HOK2 : Hid (∀ j, j < k + 1 → okB bs j = true) := by
            intro j hj
            by_cases hjk : j = k
            · subst hjk; rw [HO2.out, HX1.out, HC.out]; rfl
            · exact HOK.out j (by omega)
          have HT : Hid ((List.range (k + 1)).map (decM bs) = (List.range k).map (decM bs) ++ [(tb, s, m)]) := by unfold Hid; rw [dec_take, HD2.out]
          obtain ⟨L, hL⟩ : ∃ L, L = (List.range k).map (decM bs) := ⟨_, rfl⟩
          rw [← hL] at how7 HT
          have hLl : L.length = k := by rw [hL]; simp
          clear hL
          have hb1 : L.length + 1 ≤ maxLen := by unfold maxLen; omega
          have hb2 : (L.length + 1) * 24 ≤ 140737488355328 := by omega
          have HB1 := Lib.hid hb1; clear hb1
          have HB2 := Lib.hid hb2; clear hb2
          have HLL := Lib.hid hLl; clear hLl
          have hz7 := hB7.size
          go_wp2_with (first | (at_builtin; refine wpList_append_own _ rfl (.tmp 56) (.tmp 58) 32 rfl w.heap.size 99 i0 (.agg #[.bool false, .int .i64 0, .int .i64 0]) 3 24 Try.underlying32 hi hz0 hz1' hz2 rfl (by decide) _ _ _ rfl (how7.alloc _) ⟨w7.heap.size, 0, none⟩ 1 1 [.bool tb, .int .i64 s, .int .i64 m] rfl rfl (three_cells rfl) (move_oneCell _ _ _) HB1.out HB2.out (Nat.le_trans hz7 (by simp)) ?_; intro v8 w8 hown8 hgrow8 _))
          have hB8 := (hB7.alloc hz7 _).grown hgrow8 (hB7.alloc hz7 _).size (fun j h => (how7.lt j h).1)
          clear hgrow8
          go_roundw
          case rel =>
            refine ⟨k + 1, p + 5, by omega, by go_num, by have := HP.out; omega, ?_, HOK2.out, hB8⟩
            rw [HT.out, List.length_append, moveCells_append]
            exact hown8
          case measure => simp [intOf]; omega
    · obtain rfl : k = K := by have := HK5.out; have := HP.out; omega
      have HALL : Hid (S = some ((List.range k).map (decM bs))) := by unfold Hid; rw [HS.out, HK.out]; exact readS_all HM.out hl4 (fun j hj => HOK.out j (by rw [HK.out]; exact hj))
      have hrng : ∀ x ∈ (List.range k).map (decM bs), inI64 x.2.1 ∧ inI64 x.2.2 := by
        intro x hx
        obtain ⟨j, hj, rfl⟩ := List.mem_map.1 hx
        have h1 := HOK.out j (List.mem_range.1 hj)
        unfold okB okM at h1
        rw [Bool.and_eq_true] at h1
        have h2 := (singleB_iff _ _).1 h1.2
        unfold inI64
        omega
      have hfin := moveSl_of_owns hown hrng (by simp; omega)
      have HFIN := Lib.hid hfin; clear hfin hown hrng
      go_wp2
      refine bodyPost_ret (v := .tuple #[u4, .int .i64 0]) (by simp [results, Try.results74, go_sem]) rfl ⟨_, by rw [HALL.out]; rfl, by rw [HALL.out]; exact HFIN.out, hbel⟩

end Go.Proofs.Ytaeklmnleampcaa
