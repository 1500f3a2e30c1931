/- Walk of Read. -/
import Derived.Test.YtaeklmnleampcaaFf
namespace Go.Proofs.Ytaeklmnleampcaa
open Go.RowKit

theorem readS_size {bs : List Int} (h : ¬ (bs.length % 5 = 0 ∧ bs.length ≤ 20480)) : readS bs = none := by
  unfold readS; rw [if_neg (fun h2 => h ⟨h2.1, h2.2.1⟩)]

theorem readS_bad {bs : List Int} {k : Nat} (hk : k < bs.length / 5) (h : okB bs k = false) : readS bs = none := by
  unfold readS
  rw [if_neg]
  rintro ⟨_, _, h2⟩
  have := List.all_eq_true.1 h2 _ (List.mem_range.2 hk)
  rw [h] at this
  cases this

theorem readS_all {bs : List Int} (h1 : bs.length % 5 = 0) (h2 : bs.length ≤ 20480) (hok : ∀ j, j < bs.length / 5 → okB bs j = true) : readS bs = some ((List.range (bs.length / 5)).map (decM bs)) := by
  unfold readS
  rw [if_pos ⟨h1, h2, List.all_eq_true.2 fun j hj => hok j (List.mem_range.1 hj)⟩]

theorem dec_take (bs : List Int) (k : Nat) : (List.range (k + 1)).map (decM bs) = (List.range k).map (decM bs) ++ [decM bs k] := by
  rw [List.range_succ, List.map_append]; rfl

/-- Five bytes one behind the other. -/
theorem five_at {w : World} {bs : List Int} {b o : Nat} (hwf : ∀ x ∈ bs, (Lit.int .u8 x).wf = true) (hc : ∀ j (h : j < bs.length), w.cell? ⟨b, o + j, none⟩ = some (.int .u8 bs[j])) {k : Nat} (hk : 5 * k + 5 ≤ bs.length) :
    ∃ x0 x1 x2 x3 x4 : Nat, (x0 < 256 ∧ x1 < 256 ∧ x2 < 256 ∧ x3 < 256 ∧ x4 < 256) ∧
      (w.cell? ⟨b, o + 5 * k, none⟩ = some (.int .u8 x0) ∧ w.cell? ⟨b, o + 5 * k + 1, none⟩ = some (.int .u8 x1) ∧ w.cell? ⟨b, o + 5 * k + 2, none⟩ = some (.int .u8 x2) ∧ w.cell? ⟨b, o + 5 * k + 3, none⟩ = some (.int .u8 x3) ∧ w.cell? ⟨b, o + 5 * k + 4, none⟩ = some (.int .u8 x4)) ∧
      decM bs k = ((x0 : Int) == 1, (x1 : Int) + 256 * (x2 : Int), (x3 : Int) + 256 * (x4 : Int)) ∧ okB bs k = (decide (x0 ≤ 1) && singleB ((x1 : Int) + 256 * (x2 : Int)) ((x3 : Int) + 256 * (x4 : Int))) := by
  have hx : ∀ j, j < 5 → ∃ x : Nat, x < 256 ∧ w.cell? ⟨b, o + 5 * k + j, none⟩ = some (.int .u8 x) ∧ bs.getD (5 * k + j) 0 = (x : Int) := by
    intro j hj
    have h1 := hc (5 * k + j) (by omega)
    have h2 := bounds_u8 (hwf _ (List.getElem_mem (show 5 * k + j < bs.length by omega)))
    refine ⟨(bs[5 * k + j]'(by omega)).toNat, by omega, ?_, ?_⟩
    · rw [Nat.add_assoc, h1]
      congr 2
      omega
    · rw [List.getD_eq_getElem?_getD, List.getElem?_eq_getElem (by omega)]
      simp only [Option.getD_some]
      omega
  obtain ⟨x0, l0, c0, d0⟩ := hx 0 (by omega)
  obtain ⟨x1, l1, c1, d1⟩ := hx 1 (by omega)
  obtain ⟨x2, l2, c2, d2⟩ := hx 2 (by omega)
  obtain ⟨x3, l3, c3, d3⟩ := hx 3 (by omega)
  obtain ⟨x4, l4, c4, d4⟩ := hx 4 (by omega)
  rw [Nat.add_zero] at c0 d0
  have hd : decM bs k = ((x0 : Int) == 1, (x1 : Int) + 256 * (x2 : Int), (x3 : Int) + 256 * (x4 : Int)) := by unfold decM; rw [d0, d1, d2, d3, d4]
  refine ⟨x0, x1, x2, x3, x4, ⟨l0, l1, l2, l3, l4⟩, ⟨c0, c1, c2, c3, c4⟩, hd, ?_⟩
  unfold okB okM
  rw [hd, d0]
  congr 1
  rw [Bool.eq_iff_iff, decide_eq_true_eq, decide_eq_true_eq]
  omega

def lenOf : Value → Nat
  | .slice _ n _ => n
  | _ => 0

/-- The bytes behind the first five. -/
theorem five_drop (b o n c : Nat) (hn : 5 ≤ n) (hc : n ≤ c) : ∃ a, (5 < n → a = some ⟨b, o + 5, none⟩) ∧ ∀ W, (Instr.slice 86 (.slice (some ⟨b, o, none⟩) n c) (some (.int .i64 5)) none none).run Try.prog W = .ok (.slice a (n - 5) (c - 5)) W := by
  refine ⟨if c = 5 then some ⟨b, o, none⟩ else (some ⟨b, o, none⟩ : Option Addr).map (·.add (5 * 1)), fun h => by rw [if_neg (by omega)]; rfl, fun W => ?_⟩
  rw [run_slice_l W 86 _ n c und86 .i64 5 (by omega) (by omega), sub5]
  rfl

/-- The first five bytes. -/
theorem five_take (b o n c : Nat) (hn : 5 ≤ n) (hc : n ≤ c) (W : World) : (Instr.slice 86 (.slice (some ⟨b, o, none⟩) n c) none (some (.int .i64 5)) none).run Try.prog W = .ok (.slice (some ⟨b, o, none⟩) 5 c) W := by
  rw [run_slice_h W 86 _ n c und86 .i64 5 (by omega) (by omega), sub5]
  simp only [sliced]
  rw [if_neg (by omega)]
  simp [Addr.add]

theorem five_below {w w' : World} {b o : Nat} {x0 x1 x2 x3 x4 : Value} (h : w.cell? ⟨b, o, none⟩ = some x0 ∧ w.cell? ⟨b, o + 1, none⟩ = some x1 ∧ w.cell? ⟨b, o + 2, none⟩ = some x2 ∧ w.cell? ⟨b, o + 3, none⟩ = some x3 ∧ w.cell? ⟨b, o + 4, none⟩ = some x4) (hb : b < w.heap.size) (hbel : Below w.heap.size w w') :
    w'.cell? ⟨b, o, none⟩ = some x0 ∧ w'.cell? ⟨b, o + 1, none⟩ = some x1 ∧ w'.cell? ⟨b, o + 2, none⟩ = some x2 ∧ w'.cell? ⟨b, o + 3, none⟩ = some x3 ∧ w'.cell? ⟨b, o + 4, none⟩ = some x4 :=
  ⟨(hbel.cell (p := ⟨b, _, none⟩) hb).trans h.1, (hbel.cell (p := ⟨b, _, none⟩) hb).trans h.2.1, (hbel.cell (p := ⟨b, _, none⟩) hb).trans h.2.2.1, (hbel.cell (p := ⟨b, _, none⟩) hb).trans h.2.2.2.1, (hbel.cell (p := ⟨b, _, none⟩) hb).trans h.2.2.2.2⟩

/-- Which bytes are left behind k moves. -/
def LeftAt (w : World) (bs : List Int) (k : Nat) (a : Option Addr) : Prop :=
  5 * k < bs.length → ∃ b o, a = some ⟨b, o + 5 * k, none⟩ ∧ b < w.heap.size ∧ ∀ j (h : j < bs.length), w.cell? ⟨b, o + j, none⟩ = some (.int .u8 bs[j])

theorem leftAt_zero {w : World} {bs : List Int} {ao : Option Addr} (hcc : bs ≠ [] → ∃ b o, ao = some ⟨b, o, none⟩ ∧ b < w.heap.size ∧ ∀ j (h : j < bs.length), w.cell? ⟨b, o + j, none⟩ = some (.int .u8 bs[j])) : LeftAt w bs 0 ao := by
  intro h
  exact hcc (by intro h2; simp [h2] at h)

theorem leftAt_succ {w : World} {bs : List Int} {k n b o : Nat} {a' : Option Addr} (hn : n + 5 * k = bs.length) (hb : b < w.heap.size) (hc : ∀ j (h : j < bs.length), w.cell? ⟨b, o + j, none⟩ = some (.int .u8 bs[j])) (ha : 5 < n → a' = some ⟨b, o + 5 * k + 5, none⟩) : LeftAt w bs (k + 1) a' := by
  intro h
  exact ⟨b, o, by rw [ha (by omega)]; congr 2, hb, hc⟩

set_option maxRecDepth 100000 in
set_option maxHeartbeats 8000000 in
theorem read_any (u : Value) (bs : List Int) (w : World) (hu : IntSl .u8 w u bs) (hcap : CapOk u) :
    Calls Try.prog 73 #[u] w fun e w' => ∃ r, e = .returned (.tuple #[r, .int .i64 (codeB (readS bs))]) ∧ MoveSl w' r ((readS bs).getD []) ∧ Below w.heap.size w w' := by
  obtain ⟨i0, hi, hz0, hz1', hz2⟩ := info_parts Try.info99
  obtain ⟨ao, cap, rfl, hulen, hwf, hcc⟩ := hu
  have hcap : bs.length ≤ cap := by
    obtain ⟨a, n, c, h, hn⟩ := hcap
    simp only [Value.slice.injEq] at h
    omega
  have HU := Lib.hid hcc; clear hcc
  have HWF := Lib.hid hwf; clear hwf
  obtain ⟨S, hS⟩ : ∃ S, S = readS bs := ⟨_, rfl⟩
  rw [← hS]
  have HS := Lib.hid hS; clear hS
  have hB0 := Below.refl w.heap.size w
  by_cases hm : bs.length % 5 = 0
  case neg =>
    have HN : Hid (S = none) := by unfold Hid; rw [HS.out, readS_size (fun h => hm h.1)]
    have hq : ((bs.length : Int) % 5 != 0) = true := by rw [bne_iff_ne]; omega
    clear hm
    go_enter Try.func73, Try.ntmps73
    go_wp2
    refine bodyPost_ret (v := .tuple #[.slice none 0 0, .int .i64 81]) (by simp [results, Try.results73, go_sem]) rfl ⟨_, by rw [HN.out]; rfl, by rw [HN.out]; exact moveSl_nil _, hB0⟩
  case pos =>
  have hq : ((bs.length : Int) % 5 != 0) = false := by
    have : (bs.length : Int) % 5 = 0 := by omega
    rw [this]; rfl
  by_cases hlong : ¬ bs.length ≤ 20480
  · have HN : Hid (S = none) := by unfold Hid; rw [HS.out, readS_size (fun h => hlong h.2)]
    have hl : (20480 : Int) < (bs.length : Int) := by omega
    clear hm
    go_enter Try.func73, Try.ntmps73
    go_wp2
    refine bodyPost_ret (v := .tuple #[.slice none 0 0, .int .i64 81]) (by simp [results, Try.results73, go_sem]) rfl ⟨_, by rw [HN.out]; rfl, by rw [HN.out]; exact moveSl_nil _, hB0⟩
  have hl4 : bs.length ≤ 20480 := by omega
  have hl : ¬ (20480 : Int) < (bs.length : Int) := by omega
  clear hlong
  obtain ⟨K, hK⟩ : ∃ K, K = bs.length / 5 := ⟨_, rfl⟩
  have HK := Lib.hid hK
  have hK5 : 5 * K = bs.length := by omega
  have HK5 := Lib.hid hK5; clear hK5
  have hKi : (bs.length : Int) / 5 = (K : Int) := by omega
  have hK4 : K ≤ 4096 := by omega
  clear hK
  have HM := Lib.hid hm; clear hm
  go_enter Try.func73, Try.ntmps73
  go_wp2_with (refine wpList_make_own (o := ⟨some 20, _, _, _, _, _⟩) _ rfl _ _ 32 rfl w.heap.size 99 i0 (.agg #[.bool false, .int .i64 0, .int .i64 0]) 3 Try.underlying32 hi hz0 hz1' .i64 .i64 _ K rfl rfl (by first | rfl | omega) (by rw [hz2]; omega) (by unfold maxLen; omega) (Nat.le_refl _) ?_; intro w2 hown2 hgrow2)
  have hB2 : Below w.heap.size w w2 := (Below.refl _ _).grown hgrow2 (Nat.le_refl _) (fun k e => by cases e)
  clear hgrow2 hKi
  go_loopw [0, 4] (fun vb v wr => ∃ (k n c : Nat) (a : Option Addr), k ≤ K ∧ vb = .slice a n c ∧ n + 5 * k = bs.length ∧ n ≤ c ∧ LeftAt w bs k a ∧ wr.ownsRow w.heap.size 99 3 v ((List.range k).map (decM bs)).length (moveCells ((List.range k).map (decM bs))) ∧ Hid (∀ j, j < k → okB bs j = true) ∧ Below w.heap.size w wr)
    (fun vb _ _ => lenOf vb)
  case atStart => exact ⟨0, bs.length, cap, ao, Nat.zero_le _, rfl, rfl, hcap, leftAt_zero HU.out, hown2, fun j h => absurd h (Nat.not_lt_zero _), hB2⟩
  case round =>
    clear hown2 hB2
    obtain ⟨k, n, c, a, hk, rfl, hn, hnc, hla, hown, HOK, hbel⟩ := hrel
    have HLA := Lib.hid hla; clear hla
    have hsz := hbel.size
    by_cases hlt : 0 < n
    · have hkK : k < K := by have := HK5.out; omega
      have hn5 : 5 ≤ n := by have := HK5.out; omega
      obtain ⟨b, o, rfl, hbs, hcell⟩ := HLA.out (by omega)
      obtain ⟨x0, x1, x2, x3, x4, ⟨l0, l1, l2, l3, l4⟩, hc5, hd, hokb⟩ := five_at HWF.out hcell (k := k) (by omega)
      obtain ⟨a', ha', hrun⟩ := five_drop b (o + 5 * k) n c hn5 hnc
      have HLA' : Hid (LeftAt w bs (k + 1) a') := leftAt_succ hn hbs hcell ha'
      have HN := Lib.hid hn; clear hn
      clear ha' hcell
      have HRUN := Lib.hid hrun; clear hrun
      have HC5 := Lib.hid hc5; clear hc5
      have HD := Lib.hid hd; clear hd
      have HOKB := Lib.hid hokb; clear hokb
      have htk := five_take b (o + 5 * k) n c hn5 hnc
      have hi5 : (0 : Int) ≤ 5 := by decide
      have hi6 : (5 : Int) ≤ (c : Int) := by omega
      have hc5' : 5 ≤ c := by omega
      have hX : x0 < 256 ∧ x1 < 256 ∧ x2 < 256 ∧ x3 < 256 ∧ x4 < 256 := ⟨l0, l1, l2, l3, l4⟩
      have HX := Lib.hid hX; clear hX
      go_wp2_with fail
      go_region_held3 (fun _ => True) (trivial)
        (first
          | (go_at_call 87; refine (widths_any _).mono ?_; rintro e w5 ⟨b5, rfl, hv5, -, hb5⟩)
          | (go_at_call 88; refine (get_122 _ _ _ _ x0 x1 x2 x3 x4 HX.out hc5' _ hv5 ?_ ?_).mono ?_; (exact five_below HC5.out hbs (Below.step hbel.drew hbel.drew.size hb5)); (exact Nat.lt_of_lt_of_le hbs (Below.step hbel.drew hbel.drew.size hb5).size); rintro e w6 ⟨g, rfl, ⟨e0, e1, e2⟩, hg, hgw, hb6⟩))
      have hB6 : Below w.heap.size w w6 := Below.step (Below.step hbel.drew hbel.drew.size hb5) (Below.step hbel.drew hbel.drew.size hb5).size hb6
      have how6 : w6.ownsRow w.heap.size 99 3 u4 _ _ := owns_below (owns_below hown.drew hb5) hb6
      clear hb5 hb6 hv5 hown hbel
      by_cases hx0 : 1 < x0
      · have HN2 : Hid (S = none) := by unfold Hid; rw [HS.out]; exact readS_bad (by rw [← HK.out]; exact hkK) (by rw [HOKB.out, decide_eq_false (by omega)]; rfl)
        have hx0' : (1 : Int) < (x0 : Int) := by omega
        clear HRUN
        go_wp2
        refine bodyPost_ret (v := .tuple #[.slice none 0 0, .int .i64 81]) (by simp [results, Try.results73, go_sem]) rfl ⟨_, by rw [HN2.out]; rfl, by rw [HN2.out]; exact moveSl_nil _, hB6⟩
      have hx0' : ¬ (1 : Int) < (x0 : Int) := by omega
      have hx1 : decide (x0 ≤ 1) = true := decide_eq_true (by omega)
      have HX1 := Lib.hid hx1; clear hx1
      obtain ⟨tb, htb⟩ : ∃ tb, ((x0 : Int) == 1) = tb := ⟨_, rfl⟩
      obtain ⟨s, hs⟩ : ∃ s, (x1 : Int) + 256 * (x2 : Int) = s := ⟨_, rfl⟩
      obtain ⟨m, hm⟩ : ∃ s, (x3 : Int) + 256 * (x4 : Int) = s := ⟨_, rfl⟩
      have hsi : 0 ≤ s ∧ s < 65536 := by omega
      have hmi : 0 ≤ m ∧ m < 65536 := by omega
      have HD2 : Hid (decM bs k = (tb, s, m)) := by unfold Hid; rw [HD.out, htb, hs, hm]
      have HO2 : Hid (okB bs k = singleB s m) := by unfold Hid; rw [HOKB.out, HX1.out, hs, hm]; rfl
      rw [hs] at e1
      rw [hm] at e2
      clear hs hm
      have hne0 := World.new_ne w6 ⟨g, 0, none⟩ e0
      have hws : IntKind.i64.wrap s = s := IntWalk.i64_in _ (by omega)
      have hwm : IntKind.i64.wrap m = m := IntWalk.i64_in _ (by omega)
      go_wp2_with fail
      go_region_held3 (fun W => W.cell? ⟨g, 0, none⟩ = some (.int .u64 (x0 : Int)) ∧ W.cell? ⟨g, 1, none⟩ = some (.int .u64 s) ∧ W.cell? ⟨g, 2, none⟩ = some (.int .u64 m)) (go_keep) (fail)
      obtain ⟨We, hWe⟩ : ∃ W0, W0 = (w6.alloc (.cells #[.bool tb, .int .i64 s, .int .i64 m] 99)).drew := ⟨_, rfl⟩
      have p0 : We.cell? ⟨w6.heap.size, 0, none⟩ = some (.bool tb) := by rw [hWe]; exact World.cell?_alloc_at _ _ _ _ rfl
      have p1 : We.cell? ⟨w6.heap.size, 1, none⟩ = some (.int .i64 s) := by rw [hWe]; exact World.cell?_alloc_at _ _ _ _ rfl
      have p2 : We.cell? ⟨w6.heap.size, 2, none⟩ = some (.int .i64 m) := by rw [hWe]; exact World.cell?_alloc_at _ _ _ _ rfl
      have hse : We.heap.size = w6.heap.size + 1 := by rw [hWe]; simp
      have hBe : Below w.heap.size w We := by rw [hWe]; exact (hB6.alloc hB6.size _).drew
      have howe := (how6.alloc (.cells #[.bool tb, .int .i64 s, .int .i64 m] 99)).drew
      rw [← hWe] at howe
      rw [← hWe]
      have hz6 := hB6.size
      clear hWe hB6 how6 e0 e1 e2 hne0
      obtain ⟨E, hE⟩ : ∃ E, E = w6.heap.size := ⟨_, rfl⟩
      rw [← hE] at p0 p1 p2 hse hz6 ⊢
      clear hE
      obtain ⟨cc, hcc⟩ : ∃ c, singleB s m = c := ⟨_, rfl⟩
      have HC := Lib.hid hcc; clear hcc
      go_wp2_with fail
      refine (mright_any tb s m (by unfold inI64; omega) _).mono ?_
      rw [HC.out]
      rintro e w7 ⟨rfl, hb7⟩
      have hB7 := Below.step hBe hBe.size hb7
      have how7 := owns_below howe hb7
      have q0 := (hb7.cell (p := ⟨E, 0, none⟩) (by show E < We.heap.size; omega)).trans p0
      have q1 := (hb7.cell (p := ⟨E, 1, none⟩) (by show E < We.heap.size; omega)).trans p1
      have q2 := (hb7.cell (p := ⟨E, 2, none⟩) (by show E < We.heap.size; omega)).trans p2
      clear p0 p1 p2 hBe howe hb7 hse htb
      cases cc with
      | false =>
        have HN2 : Hid (S = none) := by unfold Hid; rw [HS.out]; exact readS_bad (by rw [← HK.out]; exact hkK) (by rw [HO2.out, HC.out])
        clear HRUN
        go_wp2
        refine bodyPost_ret (v := .tuple #[.slice none 0 0, .int .i64 81]) (by simp [results, Try.results73, go_sem]) rfl ⟨_, by rw [HN2.out]; rfl, by rw [HN2.out]; exact moveSl_nil _, hB7⟩
      | true =>
        have HOK2 : Hid (∀ j, j < k + 1 → okB bs j = true) := by
          intro j hj
          by_cases hjk : j = k
          · subst hjk; rw [HO2.out]; exact HC.out
          · exact HOK.out j (by omega)
        have HT : Hid ((List.range (k + 1)).map (decM bs) = (List.range k).map (decM bs) ++ [(tb, s, m)]) := by unfold Hid; rw [dec_take, HD2.out]
        obtain ⟨L, hL⟩ : ∃ L, L = (List.range k).map (decM bs) := ⟨_, rfl⟩
        rw [← hL] at how7 HT
        have hLl : L.length = k := by rw [hL]; simp
        clear hL
        have hb1 : L.length + 1 ≤ maxLen := by unfold maxLen; omega
        have hb2 : (L.length + 1) * 24 ≤ 140737488355328 := by omega
        have HB1 := Lib.hid hb1; clear hb1
        have HB2 := Lib.hid hb2; clear hb2
        have HLL := Lib.hid hLl; clear hLl
        have hz7 := hB7.size
        have hrun := HRUN.out
        go_wp2_with (first | (at_builtin; refine wpList_append_own _ rfl (.tmp 58) (.tmp 60) 32 rfl w.heap.size 99 i0 (.agg #[.bool false, .int .i64 0, .int .i64 0]) 3 24 Try.underlying32 hi hz0 hz1' hz2 rfl (by decide) _ _ _ rfl (how7.alloc _) ⟨w7.heap.size, 0, none⟩ 1 1 [.bool tb, .int .i64 s, .int .i64 m] rfl rfl (three_cells rfl) (move_oneCell _ _ _) HB1.out HB2.out (Nat.le_trans hz7 (by simp)) ?_; intro v8 w8 hown8 hgrow8 _))
        have hB8 := (hB7.alloc hz7 _).grown hgrow8 (hB7.alloc hz7 _).size (fun j h => (how7.lt j h).1)
        clear hgrow8 hrun
        go_roundw
        case rel =>
          refine ⟨k + 1, n - 5, c - 5, a', by omega, rfl, by have := HN.out; omega, by omega, HLA'.out, ?_, HOK2.out, hB8⟩
          rw [HT.out, List.length_append, moveCells_append]
          exact hown8
        case measure => simp [lenOf]; omega
    · obtain rfl : n = 0 := by omega
      obtain rfl : k = K := by have := HK5.out; omega
      have HALL : Hid (S = some ((List.range k).map (decM bs))) := by unfold Hid; rw [HS.out, HK.out]; exact readS_all HM.out hl4 (fun j hj => HOK.out j (by rw [HK.out]; exact hj))
      have hrng : ∀ x ∈ (List.range k).map (decM bs), inI64 x.2.1 ∧ inI64 x.2.2 := by
        intro x hx
        obtain ⟨j, hj, rfl⟩ := List.mem_map.1 hx
        have h1 := HOK.out j (List.mem_range.1 hj)
        unfold okB okM at h1
        rw [Bool.and_eq_true] at h1
        have h2 := (singleB_iff _ _).1 h1.2
        unfold inI64
        omega
      have hfin := moveSl_of_owns hown hrng (by simp; omega)
      have HFIN := Lib.hid hfin; clear hfin hown hrng
      go_wp2
      refine bodyPost_ret (v := .tuple #[u4, .int .i64 0]) (by simp [results, Try.results73, go_sem]) rfl ⟨_, by rw [HALL.out]; rfl, by rw [HALL.out]; exact HFIN.out, hbel⟩

end Go.Proofs.Ytaeklmnleampcaa
