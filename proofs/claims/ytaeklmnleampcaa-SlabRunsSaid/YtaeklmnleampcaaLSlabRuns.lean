/- Whatever is done with a map of sectors, all answers, and what is free, taken and will be free, are the document's. No condition. -/
import Derived.Test.YtaeklmnleampcaaSs
import Derived.Test.YtaeklmnleampcaaFSlabRuns
import Derived.Deep.DeepCutAuto
import Derived.Deep.CutBlock
namespace Go.Proofs.Ytaeklmnleampcaa
open Go.RowKit

theorem row_but' {w w' : World} {b g : Nat} {t : TypeId} {n : Nat} {f : Nat → Value} (h : RowAt w g t n f) (hb : But b w w') (hg : g ≠ b) : RowAt w' g t n f := by
  unfold RowAt
  rw [hb.block g h.lt hg]
  exact h

theorem goodT_allocS {T : Nat} {st : Nat → Nat} (h : GoodT T st) : GoodT T (allocS st) := by
  cases ha : allocN st with
  | none => rw [(alloc_none ha).2.2]; exact h
  | some i => rw [(alloc_some ha).2.2]; exact goodT_put h (by rw [(allocN_some ha).2.1]; decide) (by decide) (by decide)

theorem goodT_turn {T : Nat} {st : Nat → Nat} (h : GoodT T st) (i : Int) {s v : Nat} (hs : s ≠ 0) (hv : v ≠ 0) (hv3 : v ≤ 3) : GoodT T (turnN st i s v) := by
  rcases turn_cases st i s v with ⟨k, _, _, h3, _, h5⟩ | ⟨_, _, h3⟩
  · rw [h5]; exact goodT_put h (by rw [h3]; exact hs) hv hv3
  · rw [h3]; exact h

theorem goodT_manyS {T : Nat} {st : Nat → Nat} (h : GoodT T st) (n : Int) : GoodT T (manyS st n) := by
  unfold manyS manyO
  split
  · exact goodT_many h _
  · exact h

theorem manyL_ok (st : Nat → Nat) (n : Int) : (∀ i ∈ manyL st n, i < 1024) ∧ (manyL st n).length ≤ 1024 := by
  unfold manyL manyO
  split
  · next h =>
    refine ⟨manyN_in st _, ?_⟩
    have := (manyN_count st (k := n.toNat) (by omega)).2
    have h9 : countN st ≤ 1024 := by rw [countN_eq]; exact cntTo_le _ _ _
    show (manyN st n.toNat).1.length ≤ 1024
    omega
  · constructor
    · intro i hi
      cases hi
    · exact Nat.zero_le _

theorem intSl_zero (w : World) (a : Option Addr) (c : Nat) : IntSl .i64 w (.slice a 0 c) [] := ⟨a, c, rfl, by simp, by simp, fun h => absurd rfl h⟩

theorem IntSl.but {w w' : World} {v : Value} {l : List Int} (h : IntSl .i64 w v l) (hl : l = []) : IntSl .i64 w' v l := by
  subst hl
  obtain ⟨a, c, h1, _⟩ := h
  exact ⟨a, c, h1, by simp, by simp, fun h => absurd rfl h⟩

/-- What holds where the ways of the switch meet. -/
def AtMeet (w : World) (b g N : Nat) (s11 s12 s13 s14 s15 s16 : Value) (wx : World) (i e : Int) (L : List Int) (st : Nat → Nat) : Prop :=
  s11 = .int .i64 i ∧ s12 = .int .i64 i ∧ IntSl .i64 wx s13 L ∧ IntSl .i64 wx s14 L ∧ s15 = .int .i64 e ∧ s16 = .int .i64 e ∧ GoodT N st ∧ MapAt wx b st ∧ RowAt wx g 67 1025 (refF N st) ∧ Below w.heap.size w wx

set_option maxRecDepth 100000 in
set_option maxHeartbeats 32000000 in
theorem slabRuns_walk : SlabRunsWalk := by
  intro w T v l qs hT hv _ _ hqs
  have HT := Lib.hid hT; clear hT
  have HQS := Lib.hid hqs; clear hqs
  obtain ⟨ao, acap, rfl, hlen, hrng, hcc⟩ := hv
  have HC := Lib.hid hcc; clear hcc
  have HRNG := Lib.hid hrng; clear hrng
  obtain ⟨N, hN⟩ : ∃ N, clampN T = N := ⟨_, rfl⟩
  obtain ⟨st0, hst0⟩ : ∃ st, newN T = st := ⟨_, rfl⟩
  have hgood : GoodT N st0 := by rw [← hst0, newN_clamp, hN]; exact goodT_new (by rw [← hN]; exact clampN_le T)
  have HN := Lib.hid hN; clear hN
  have HST0 := Lib.hid hst0; clear hst0
  go_enter Try.func17, Try.ntmps17
  go_wp2_with fail
  refine (slabAlive_any _).mono ?_
  rintro e w1 ⟨rfl, hB1⟩
  have hz1 := hB1.size
  go_wp2_with fail
  refine (new_any T HT.out _).mono ?_
  rw [HST0.out]
  rintro e w2 ⟨rfl, hm2, hb2⟩
  have hB2 := Below.step hB1 hB1.size hb2
  obtain ⟨b, hb⟩ : ∃ b, b = w1.heap.size := ⟨_, rfl⟩
  rw [← hb] at hm2 hz1 ⊢
  clear hb hb2
  have HM2 := Lib.hid hm2; clear hm2
  go_wp2_with fail
  refine (refnew_any T _).mono ?_
  rw [HN.out, HST0.out]
  rintro e w3 ⟨A3, rfl, hA3, hb3⟩
  have hm3 := HM2.out.below hb3
  have hB3 := Below.step hB2 hB2.size hb3
  have hr4 : RowAt (w3.alloc (.cells Try.zeroCells67 67)) w3.heap.size 67 1025 (refF 0 (fun _ => 0)) := by rw [zero67]; exact RowAt.alloc _ _ _ _
  have hm4 : MapAt (w3.alloc (.cells Try.zeroCells67 67)) b st0 := RowAt.alloc_old hm3 _
  have hB4 : Below w.heap.size w (w3.alloc (.cells Try.zeroCells67 67)) := hB3.alloc hB3.size _
  have hbl := hm3.lt
  obtain ⟨g, hg⟩ : ∃ g, g = w3.heap.size := ⟨_, rfl⟩
  have hr5 : RowAt ((w3.alloc (.cells Try.zeroCells67 67)).setRow g A3) g 67 1025 (refF N st0) := by rw [hA3, hg]; exact RowAt.setRow hr4 _
  have hm5 : MapAt ((w3.alloc (.cells Try.zeroCells67 67)).setRow g A3) b st0 := RowAt.setRow_other hm4 (by omega) _
  have hB5 := Below.setRow hB4 (g := g) (by have := hB3.size; omega) A3
  have hbg : b ≠ g := by omega
  have hzg : w.heap.size ≤ g := by have := hB3.size; omega
  obtain ⟨w5, hw5⟩ : ∃ W, (w3.alloc (.cells Try.zeroCells67 67)).setRow g A3 = W := ⟨_, rfl⟩
  rw [hw5] at hr5 hm5 hB5
  have HG := Lib.hid hg; clear hg
  have HA3 := Lib.hid hA3; clear hA3
  have HR4 := Lib.hid hr4; clear hr4
  have HW5 := Lib.hid hw5; clear hw5
  have HR5 := Lib.hid hr5; clear hr5
  have HM5 := Lib.hid hm5; clear hm5
  clear hm3 hm4 hB3 hB4 hB1 hB2 hb3 HM2 hbl
  by_cases hlong : 200 < l.length
  · have hlong' : (200 : Int) < (l.length : Int) := by omega
    go_wp2_with ((with_reducible refine at_op ⟨none, .store 67 (.tmp 8) (.tmp 23), _, _, _, none⟩ ?_); refine wpList_store_row (o := ⟨none, .store 67 (.tmp 8) (.tmp 23), _, _, _, none⟩) rfl 67 (.tmp 8) (.tmp 23) rfl w3.heap.size rfl 1025 (refF N st0) A3 rfl HA3.out 67 (refF 0 (fun _ => 0)) HR4.out size67 (refF_one _ _) ?_; rw [← HA3.out, ← HG.out, HW5.out])
    go_ret
    exact ⟨rfl, hB5⟩
  have hlong' : ¬ (200 : Int) < (l.length : Int) := by omega
  go_wp2_with ((with_reducible refine at_op ⟨none, .store 67 (.tmp 8) (.tmp 23), _, _, _, none⟩ ?_); refine wpList_store_row (o := ⟨none, .store 67 (.tmp 8) (.tmp 23), _, _, _, none⟩) rfl 67 (.tmp 8) (.tmp 23) rfl w3.heap.size rfl 1025 (refF N st0) A3 rfl HA3.out 67 (refF 0 (fun _ => 0)) HR4.out size67 (refF_one _ _) ?_; rw [← HA3.out, ← HG.out, HW5.out])
  clear HR4 HA3 HW5 HG
  go_loopw [35] (fun i wr => ∃ (k : Nat) (st : Nat → Nat), k ≤ l.length ∧ i = .int .i64 k ∧ GoodT N st ∧ Hid (MapAt wr b st) ∧ Hid (RowAt wr g 67 1025 (refF N st)) ∧ Below w.heap.size w wr)
    (fun i _ => l.length - (intOf i).toNat)
  case atStart => exact ⟨0, st0, Nat.zero_le _, rfl, hgood, HM5, HR5, hB5⟩
  case round =>
    clear HM5 HR5 hB5 hgood
    obtain ⟨k, st, hk, rfl, hgood, HM, HR, hbel⟩ := hrel
    have hzr := hbel.size
    by_cases hlt : k < l.length
    · obtain ⟨ga, o, rfl, hbs, hcell⟩ := HC.out (by intro h; simp [h] at hlt)
      obtain ⟨h1, h2⟩ := span_cells hbs hcell hbel hlt
      clear hcell
      have hr := HRNG.out _ (List.getElem_mem hlt)
      obtain ⟨x, hx⟩ : ∃ x, l[k].1 = x := ⟨_, rfl⟩
      obtain ⟨n, hn⟩ : ∃ x, l[k].2 = x := ⟨_, rfl⟩
      rw [hx] at h1
      rw [hn] at h2 hr
      have HNI : Hid (inI64 n) := hr.2
      clear hr hx hn
      have hbw : b < wr.heap.size := HM.out.lt
      have hgw : g < wr.heap.size := HR.out.lt
      obtain ⟨We, hWe⟩ : ∃ W, W = ((wr.alloc (.cells #[.int .i64 x, .int .i64 n] 39)).alloc (.cells #[] 3)).alloc (.cells #[] 3) := ⟨_, rfl⟩
      have hmE : MapAt We b st := by rw [hWe]; exact RowAt.alloc_old (RowAt.alloc_old (RowAt.alloc_old HM.out _) _) _
      have hgE : RowAt We g 67 1025 (refF N st) := by rw [hWe]; exact RowAt.alloc_old (RowAt.alloc_old (RowAt.alloc_old HR.out _) _) _
      have hBE : Below w.heap.size w We := by rw [hWe]; exact ((hbel.alloc hbel.size _).alloc (by simp; omega) _).alloc (by simp; omega) _
      obtain ⟨E, hE⟩ : ∃ E, E = wr.heap.size := ⟨_, rfl⟩
      have hp : We.cell? ⟨E, 0, none⟩ = some (.int .i64 x) ∧ We.cell? ⟨E, 1, none⟩ = some (.int .i64 n) := by
        obtain ⟨p0, p1⟩ := two_new wr (.int .i64 x) (.int .i64 n) 39
        rw [hWe, hE]
        exact ⟨(((Below.refl (wr.heap.size + 1) _).alloc (by simp) _).alloc (by simp) _ |>.cell (p := ⟨wr.heap.size, 0, none⟩) (by show wr.heap.size < _; omega)).trans p0, (((Below.refl (wr.heap.size + 1) _).alloc (by simp) _).alloc (by simp) _ |>.cell (p := ⟨wr.heap.size, 1, none⟩) (by show wr.heap.size < _; omega)).trans p1⟩
      obtain ⟨p0, p1⟩ := hp
      have hse : We.heap.size = E + 3 := by rw [hWe, hE]; simp
      have hWe' := hWe.symm
      have HWE := Lib.hid hWe'; clear hWe hWe'
      have HEE := Lib.hid hE; clear hE
      have hbE : b ≠ E := by have := HEE.out; omega
      have hgE' : g ≠ E := by have := HEE.out; omega
      have HME := Lib.hid hmE; clear hmE
      have HGE := Lib.hid hgE; clear hgE
      clear HM HR hbel
      go_upto_block 2 with fail
      rw [HWE.out, ← HEE.out]
      obtain ⟨AG, hAG⟩ : ∃ A, A = arrOf 1025 (refF N st) := ⟨_, rfl⟩
      have HAG := Lib.hid hAG; clear hAG
      go_cut [11, 12, 13, 14, 15, 16] (fun s11 s12 s13 s14 s15 s16 wx => ∃ (i e : Int) (L : List Int) (st' : Nat → Nat) (v13 v14 : Value), v13 = s13 ∧ v14 = s14 ∧ AtMeet w b g N s11 s12 s13 s14 s15 s16 wx i e L st')
      case first =>
        by_cases hx0 : x = 0
        · subst hx0
          go_wp2_with fail
          refine (alloc_any b st _ HME.out).mono ?_
          rintro e w6 ⟨rfl, hm6, hb6⟩
          have hB6 := hBE.trans (hb6.below (by omega) hBE.size)
          have hr6 : RowAt w6 g 67 1025 (refF N st) := row_but' HGE.out hb6 (Ne.symm hbg)
          have p16 : w6.cell? ⟨E, 1, none⟩ = some (.int .i64 n) := (World.cell?_of_block (hb6.block E (by omega) (Ne.symm hbE))).trans p1
          have HM6 := Lib.hid hm6; clear hm6 hb6 p0 p1 hse
          have HR6 := Lib.hid hr6; clear hr6
          go_wp2_with ((with_reducible refine at_op ⟨some 52, .load 67 (.tmp 8), _, _, _, none⟩ ?_); refine wpList_load_arr (o := ⟨some 52, .load 67 (.tmp 8), _, _, _, none⟩) rfl 67 (.tmp 8) rfl g rfl 1025 67 _ HR6.out _ Try.underlying67 rfl size67 ?_; rw [← HAG.out])
          refine (refalloc_any N st hgood AG HAG.out _).mono ?_
          rintro e w7 ⟨A7, rfl, hA7, hb7⟩
          have hm7 := HM6.out.below hb7
          have hr7 := RowAt.below HR6.out hb7
          have hB7 := Below.step hB6 hB6.size hb7
          have hr8 : RowAt (w7.setRow g A7) g 67 1025 (refF N (allocS st)) := by rw [hA7]; exact RowAt.setRow hr7 _
          have hm8 : MapAt (w7.setRow g A7) b (allocS st) := RowAt.setRow_other hm7 hbg A7
          have hB8 := Below.setRow hB7 hzg A7
          obtain ⟨w8, hw8⟩ : ∃ W, w7.setRow g A7 = W := ⟨_, rfl⟩
          rw [hw8] at hr8 hm8 hB8
          have HW8 := Lib.hid hw8; clear hw8
          have HA7 := Lib.hid hA7; clear hA7
          have HR7 := Lib.hid hr7; clear hr7
          have HR8 := Lib.hid hr8; clear hr8
          have HM8 := Lib.hid hm8; clear hm8 hm7 hb7 hB7 hB6 HM6 HR6
          go_wp2_with ((with_reducible refine at_op ⟨none, .store 67 (.tmp 8) (.tmp 54), _, _, _, none⟩ ?_); refine wpList_store_row (o := ⟨none, .store 67 (.tmp 8) (.tmp 54), _, _, _, none⟩) rfl 67 (.tmp 8) (.tmp 54) rfl g rfl 1025 (refF N (allocS st)) A7 rfl HA7.out 67 _ HR7.out size67 (refF_one _ _) ?_; rw [← HA7.out, HW8.out])
          go_meet
          exact ⟨allocI st, allocC st, [], (allocS st), _, _, rfl, rfl, rfl, rfl, intSl_zero _ _ _, intSl_zero _ _ _, rfl, rfl, goodT_allocS hgood, HM8.out, HR8.out, hB8⟩
        by_cases hx1 : x = 1
        · subst hx1
          go_wp2_with fail
          refine (many_any b st n HNI.out _ HME.out).mono ?_
          rintro e w6 ⟨v6, rfl, hv6, hm6, hb6⟩
          have hB6 := hBE.trans (hb6.below (by omega) hBE.size)
          have hr6 : RowAt w6 g 67 1025 (refF N st) := row_but' HGE.out hb6 (Ne.symm hbg)
          have p16 : w6.cell? ⟨E, 1, none⟩ = some (.int .i64 n) := (World.cell?_of_block (hb6.block E (by omega) (Ne.symm hbE))).trans p1
          have HM6 := Lib.hid hm6; clear hm6 hb6 p0 p1 hse
          have HR6 := Lib.hid hr6; clear hr6
          go_wp2_with ((with_reducible refine at_op ⟨some 67, .load 67 (.tmp 8), _, _, _, none⟩ ?_); refine wpList_load_arr (o := ⟨some 67, .load 67 (.tmp 8), _, _, _, none⟩) rfl 67 (.tmp 8) rfl g rfl 1025 67 _ HR6.out _ Try.underlying67 rfl size67 ?_; rw [← HAG.out])
          refine (refmany_any N st hgood n HNI.out AG HAG.out _).mono ?_
          rintro e w7 ⟨A7, v7, rfl, hA7, hv7, hb7⟩
          have hm7 := HM6.out.below hb7
          have hr7 := RowAt.below HR6.out hb7
          have hB7 := Below.step hB6 hB6.size hb7
          have hr8 : RowAt (w7.setRow g A7) g 67 1025 (refF N (manyS st n)) := by rw [hA7]; exact RowAt.setRow hr7 _
          have hm8 : MapAt (w7.setRow g A7) b (manyS st n) := RowAt.setRow_other hm7 hbg A7
          have hB8 := Below.setRow hB7 hzg A7
          have hv8 := owns_setRow (by decide) (owns_below hv6 hb7) hr7 A7
          have hu8 := owns_setRow (by decide) hv7 hr7 A7
          obtain ⟨w8, hw8⟩ : ∃ W, w7.setRow g A7 = W := ⟨_, rfl⟩
          rw [hw8] at hr8 hm8 hB8 hv8 hu8
          have HW8 := Lib.hid hw8; clear hw8
          have HA7 := Lib.hid hA7; clear hA7
          have HR7 := Lib.hid hr7; clear hr7
          have HR8 := Lib.hid hr8; clear hr8
          have HM8 := Lib.hid hm8; clear hm8 hm7 hb7 hB7 hB6 HM6 HR6
          have HV8 := Lib.hid (owns_nats hv8 (manyL_ok st n).1 (manyL_ok st n).2); clear hv8 hv6
          have HU8 := Lib.hid (owns_nats hu8 (manyL_ok st n).1 (manyL_ok st n).2); clear hu8 hv7
          go_wp2_with ((with_reducible refine at_op ⟨none, .store 67 (.tmp 8) (.tmp 71), _, _, _, none⟩ ?_); refine wpList_store_row (o := ⟨none, .store 67 (.tmp 8) (.tmp 71), _, _, _, none⟩) rfl 67 (.tmp 8) (.tmp 71) rfl g rfl 1025 (refF N (manyS st n)) A7 rfl HA7.out 67 _ HR7.out size67 (refF_one _ _) ?_; rw [← HA7.out, HW8.out])
          go_meet
          exact ⟨0, codeM (manyO st n), (manyL st n).map fun (i : Nat) => (i : Int), (manyS st n), _, _, rfl, rfl, rfl, rfl, HV8.out, HU8.out, rfl, rfl, goodT_manyS hgood n, HM8.out, HR8.out, hB8⟩
        by_cases hx2 : x = 2
        · subst hx2
          go_wp2_with fail
          refine (take_any b st n HNI.out _ HME.out).mono ?_
          rintro e w6 ⟨rfl, hm6, hb6⟩
          have hB6 := hBE.trans (hb6.below (by omega) hBE.size)
          have hr6 : RowAt w6 g 67 1025 (refF N st) := row_but' HGE.out hb6 (Ne.symm hbg)
          have p16 : w6.cell? ⟨E, 1, none⟩ = some (.int .i64 n) := (World.cell?_of_block (hb6.block E (by omega) (Ne.symm hbE))).trans p1
          have HM6 := Lib.hid hm6; clear hm6 hb6 p0 p1 hse
          have HR6 := Lib.hid hr6; clear hr6
          go_wp2_with ((with_reducible refine at_op ⟨some 81, .load 67 (.tmp 8), _, _, _, none⟩ ?_); refine wpList_load_arr (o := ⟨some 81, .load 67 (.tmp 8), _, _, _, none⟩) rfl 67 (.tmp 8) rfl g rfl 1025 67 _ HR6.out _ Try.underlying67 rfl size67 ?_; rw [← HAG.out])
          refine (refturn_is N st hgood n HNI.out 1 2 ⟨by omega, by omega⟩ 0 1 rfl rfl _ rfl _ rfl AG HAG.out _).mono ?_
          rintro e w7 ⟨A7, rfl, hA7, hb7⟩
          have hm7 := HM6.out.below hb7
          have hr7 := RowAt.below HR6.out hb7
          have hB7 := Below.step hB6 hB6.size hb7
          have hr8 : RowAt (w7.setRow g A7) g 67 1025 (refF N (turnN st n 1 2)) := by rw [hA7]; exact RowAt.setRow hr7 _
          have hm8 : MapAt (w7.setRow g A7) b (turnN st n 1 2) := RowAt.setRow_other hm7 hbg A7
          have hB8 := Below.setRow hB7 hzg A7
          obtain ⟨w8, hw8⟩ : ∃ W, w7.setRow g A7 = W := ⟨_, rfl⟩
          rw [hw8] at hr8 hm8 hB8
          have HW8 := Lib.hid hw8; clear hw8
          have HA7 := Lib.hid hA7; clear hA7
          have HR7 := Lib.hid hr7; clear hr7
          have HR8 := Lib.hid hr8; clear hr8
          have HM8 := Lib.hid hm8; clear hm8 hm7 hb7 hB7 hB6 HM6 HR6
          go_wp2_with ((with_reducible refine at_op ⟨none, .store 67 (.tmp 8) (.tmp 85), _, _, _, none⟩ ?_); refine wpList_store_row (o := ⟨none, .store 67 (.tmp 8) (.tmp 85), _, _, _, none⟩) rfl 67 (.tmp 8) (.tmp 85) rfl g rfl 1025 (refF N (turnN st n 1 2)) A7 rfl HA7.out 67 _ HR7.out size67 (refF_one _ _) ?_; rw [← HA7.out, HW8.out])
          go_meet
          exact ⟨0, turnC st n 1, [], (turnN st n 1 2), _, _, rfl, rfl, rfl, rfl, intSl_zero _ _ _, intSl_zero _ _ _, rfl, rfl, goodT_turn hgood n (by decide) (by decide) (by decide), HM8.out, HR8.out, hB8⟩
        by_cases hx3 : x = 3
        · subst hx3
          go_wp2_with fail
          refine (free_any b st n HNI.out _ HME.out).mono ?_
          rintro e w6 ⟨rfl, hm6, hb6⟩
          have hB6 := hBE.trans (hb6.below (by omega) hBE.size)
          have hr6 : RowAt w6 g 67 1025 (refF N st) := row_but' HGE.out hb6 (Ne.symm hbg)
          have p16 : w6.cell? ⟨E, 1, none⟩ = some (.int .i64 n) := (World.cell?_of_block (hb6.block E (by omega) (Ne.symm hbE))).trans p1
          have HM6 := Lib.hid hm6; clear hm6 hb6 p0 p1 hse
          have HR6 := Lib.hid hr6; clear hr6
          go_wp2_with ((with_reducible refine at_op ⟨some 94, .load 67 (.tmp 8), _, _, _, none⟩ ?_); refine wpList_load_arr (o := ⟨some 94, .load 67 (.tmp 8), _, _, _, none⟩) rfl 67 (.tmp 8) rfl g rfl 1025 67 _ HR6.out _ Try.underlying67 rfl size67 ?_; rw [← HAG.out])
          refine (refturn_is N st hgood n HNI.out 2 1 ⟨by omega, by omega⟩ 1 0 rfl rfl _ rfl _ rfl AG HAG.out _).mono ?_
          rintro e w7 ⟨A7, rfl, hA7, hb7⟩
          have hm7 := HM6.out.below hb7
          have hr7 := RowAt.below HR6.out hb7
          have hB7 := Below.step hB6 hB6.size hb7
          have hr8 : RowAt (w7.setRow g A7) g 67 1025 (refF N (turnN st n 2 1)) := by rw [hA7]; exact RowAt.setRow hr7 _
          have hm8 : MapAt (w7.setRow g A7) b (turnN st n 2 1) := RowAt.setRow_other hm7 hbg A7
          have hB8 := Below.setRow hB7 hzg A7
          obtain ⟨w8, hw8⟩ : ∃ W, w7.setRow g A7 = W := ⟨_, rfl⟩
          rw [hw8] at hr8 hm8 hB8
          have HW8 := Lib.hid hw8; clear hw8
          have HA7 := Lib.hid hA7; clear hA7
          have HR7 := Lib.hid hr7; clear hr7
          have HR8 := Lib.hid hr8; clear hr8
          have HM8 := Lib.hid hm8; clear hm8 hm7 hb7 hB7 hB6 HM6 HR6
          go_wp2_with ((with_reducible refine at_op ⟨none, .store 67 (.tmp 8) (.tmp 98), _, _, _, none⟩ ?_); refine wpList_store_row (o := ⟨none, .store 67 (.tmp 8) (.tmp 98), _, _, _, none⟩) rfl 67 (.tmp 8) (.tmp 98) rfl g rfl 1025 (refF N (turnN st n 2 1)) A7 rfl HA7.out 67 _ HR7.out size67 (refF_one _ _) ?_; rw [← HA7.out, HW8.out])
          go_meet
          exact ⟨0, turnC st n 2, [], (turnN st n 2 1), _, _, rfl, rfl, rfl, rfl, intSl_zero _ _ _, intSl_zero _ _ _, rfl, rfl, goodT_turn hgood n (by decide) (by decide) (by decide), HM8.out, HR8.out, hB8⟩
        by_cases hx4 : x = 4
        · subst hx4
          go_wp2_with fail
          refine (later_any b st n HNI.out _ HME.out).mono ?_
          rintro e w6 ⟨rfl, hm6, hb6⟩
          have hB6 := hBE.trans (hb6.below (by omega) hBE.size)
          have hr6 : RowAt w6 g 67 1025 (refF N st) := row_but' HGE.out hb6 (Ne.symm hbg)
          have p16 : w6.cell? ⟨E, 1, none⟩ = some (.int .i64 n) := (World.cell?_of_block (hb6.block E (by omega) (Ne.symm hbE))).trans p1
          have HM6 := Lib.hid hm6; clear hm6 hb6 p0 p1 hse
          have HR6 := Lib.hid hr6; clear hr6
          go_wp2_with ((with_reducible refine at_op ⟨some 107, .load 67 (.tmp 8), _, _, _, none⟩ ?_); refine wpList_load_arr (o := ⟨some 107, .load 67 (.tmp 8), _, _, _, none⟩) rfl 67 (.tmp 8) rfl g rfl 1025 67 _ HR6.out _ Try.underlying67 rfl size67 ?_; rw [← HAG.out])
          refine (refturn_is N st hgood n HNI.out 2 3 ⟨by omega, by omega⟩ 1 2 rfl rfl _ rfl _ rfl AG HAG.out _).mono ?_
          rintro e w7 ⟨A7, rfl, hA7, hb7⟩
          have hm7 := HM6.out.below hb7
          have hr7 := RowAt.below HR6.out hb7
          have hB7 := Below.step hB6 hB6.size hb7
          have hr8 : RowAt (w7.setRow g A7) g 67 1025 (refF N (turnN st n 2 3)) := by rw [hA7]; exact RowAt.setRow hr7 _
          have hm8 : MapAt (w7.setRow g A7) b (turnN st n 2 3) := RowAt.setRow_other hm7 hbg A7
          have hB8 := Below.setRow hB7 hzg A7
          obtain ⟨w8, hw8⟩ : ∃ W, w7.setRow g A7 = W := ⟨_, rfl⟩
          rw [hw8] at hr8 hm8 hB8
          have HW8 := Lib.hid hw8; clear hw8
          have HA7 := Lib.hid hA7; clear hA7
          have HR7 := Lib.hid hr7; clear hr7
          have HR8 := Lib.hid hr8; clear hr8
          have HM8 := Lib.hid hm8; clear hm8 hm7 hb7 hB7 hB6 HM6 HR6
          go_wp2_with ((with_reducible refine at_op ⟨none, .store 67 (.tmp 8) (.tmp 111), _, _, _, none⟩ ?_); refine wpList_store_row (o := ⟨none, .store 67 (.tmp 8) (.tmp 111), _, _, _, none⟩) rfl 67 (.tmp 8) (.tmp 111) rfl g rfl 1025 (refF N (turnN st n 2 3)) A7 rfl HA7.out 67 _ HR7.out size67 (refF_one _ _) ?_; rw [← HA7.out, HW8.out])
          go_meet
          exact ⟨0, turnC st n 2, [], (turnN st n 2 3), _, _, rfl, rfl, rfl, rfl, intSl_zero _ _ _, intSl_zero _ _ _, rfl, rfl, goodT_turn hgood n (by decide) (by decide) (by decide), HM8.out, HR8.out, hB8⟩
        by_cases hx5 : x = 5
        · subst hx5
          go_wp2_with fail
          refine (commit_any b st _ HME.out).mono ?_
          rintro e w6 ⟨rfl, hm6, hb6⟩
          have hB6 := hBE.trans (hb6.below (by omega) hBE.size)
          have hr6 : RowAt w6 g 67 1025 (refF N st) := row_but' HGE.out hb6 (Ne.symm hbg)
          have p16 : w6.cell? ⟨E, 1, none⟩ = some (.int .i64 n) := (World.cell?_of_block (hb6.block E (by omega) (Ne.symm hbE))).trans p1
          have HM6 := Lib.hid hm6; clear hm6 hb6 p0 p1 hse
          have HR6 := Lib.hid hr6; clear hr6
          go_wp2_with ((with_reducible refine at_op ⟨some 117, .load 67 (.tmp 8), _, _, _, none⟩ ?_); refine wpList_load_arr (o := ⟨some 117, .load 67 (.tmp 8), _, _, _, none⟩) rfl 67 (.tmp 8) rfl g rfl 1025 67 _ HR6.out _ Try.underlying67 rfl size67 ?_; rw [← HAG.out])
          refine (refcommit_any N st hgood AG HAG.out _).mono ?_
          rintro e w7 ⟨A7, rfl, hA7, hb7⟩
          have hm7 := HM6.out.below hb7
          have hr7 := RowAt.below HR6.out hb7
          have hB7 := Below.step hB6 hB6.size hb7
          have hr8 : RowAt (w7.setRow g A7) g 67 1025 (refF N (commitN st)) := by rw [hA7]; exact RowAt.setRow hr7 _
          have hm8 : MapAt (w7.setRow g A7) b (commitN st) := RowAt.setRow_other hm7 hbg A7
          have hB8 := Below.setRow hB7 hzg A7
          obtain ⟨w8, hw8⟩ : ∃ W, w7.setRow g A7 = W := ⟨_, rfl⟩
          rw [hw8] at hr8 hm8 hB8
          have HW8 := Lib.hid hw8; clear hw8
          have HA7 := Lib.hid hA7; clear hA7
          have HR7 := Lib.hid hr7; clear hr7
          have HR8 := Lib.hid hr8; clear hr8
          have HM8 := Lib.hid hm8; clear hm8 hm7 hb7 hB7 hB6 HM6 HR6
          go_wp2_with ((with_reducible refine at_op ⟨none, .store 67 (.tmp 8) (.tmp 118), _, _, _, none⟩ ?_); refine wpList_store_row (o := ⟨none, .store 67 (.tmp 8) (.tmp 118), _, _, _, none⟩) rfl 67 (.tmp 8) (.tmp 118) rfl g rfl 1025 (refF N (commitN st)) A7 rfl HA7.out 67 _ HR7.out size67 (refF_one _ _) ?_; rw [← HA7.out, HW8.out])
          go_meet
          exact ⟨0, 0, [], (commitN st), _, _, rfl, rfl, rfl, rfl, intSl_zero _ _ _, intSl_zero _ _ _, rfl, rfl, goodT_commit hgood, HM8.out, HR8.out, hB8⟩
        have e0 : ((x : Int) == 0) = false := by rw [beq_eq_false_iff_ne]; omega
        have e1 : ((x : Int) == 1) = false := by rw [beq_eq_false_iff_ne]; omega
        have e2 : ((x : Int) == 2) = false := by rw [beq_eq_false_iff_ne]; omega
        have e3 : ((x : Int) == 3) = false := by rw [beq_eq_false_iff_ne]; omega
        have e4 : ((x : Int) == 4) = false := by rw [beq_eq_false_iff_ne]; omega
        have e5 : ((x : Int) == 5) = false := by rw [beq_eq_false_iff_ne]; omega
        clear hx0 hx1 hx2 hx3 hx4 hx5
        go_wp2_with fail
        go_meet
        exact ⟨0, 0, [], st, _, _, rfl, rfl, rfl, rfl, intSl_zero _ _ _, intSl_zero _ _ _, rfl, rfl, hgood, HME.out, HGE.out, hBE⟩
      case rest =>
        obtain ⟨i, e, L, st2, v13, v14, rfl, rfl, hmeet⟩ := hcut
        obtain ⟨rfl, rfl, hv13, hv14, rfl, rfl, hgood2, hm2, hr2, hB2⟩ := hmeet
        clear HME HGE hBE p0 p1 hse HWE hgood
        obtain ⟨A2, hA2⟩ : ∃ A, A = arrOf 1025 (refF N st2) := ⟨_, rfl⟩
        have HA2 := Lib.hid hA2; clear hA2
        obtain ⟨C, hC⟩ : ∃ C, countN st2 = C := ⟨_, rfl⟩
        have HCC := Lib.hid hC; clear hC
        obtain ⟨r, hrr⟩ : ∃ r, roomR st2 qs = r := ⟨_, rfl⟩
        have HRR := Lib.hid hrr; clear hrr
        have keepS : ∀ {W W' : World}, (MapAt W b st2 ∧ RowAt W g 67 1025 (refF N st2) ∧ IntSl .i64 W v13 L ∧ IntSl .i64 W v14 L ∧ Below w.heap.size w W) → Below W.heap.size W W' → (MapAt W' b st2 ∧ RowAt W' g 67 1025 (refF N st2) ∧ IntSl .i64 W' v13 L ∧ IntSl .i64 W' v14 L ∧ Below w.heap.size w W') := fun h hb => ⟨h.1.below hb, RowAt.below h.2.1 hb, h.2.2.1.below hb, h.2.2.2.1.below hb, Below.step h.2.2.2.2 h.2.2.2.2.size hb⟩
        have hS : MapAt wc.drew b st2 ∧ RowAt wc.drew g 67 1025 (refF N st2) ∧ IntSl .i64 wc.drew v13 L ∧ IntSl .i64 wc.drew v14 L ∧ Below w.heap.size w wc.drew := ⟨hm2, hr2, hv13, hv14, hB2.drew⟩
        have HS := Lib.hid hS; clear hS hm2 hr2 hv13 hv14
        have HKS : Hid (∀ {W W' : World}, (MapAt W b st2 ∧ RowAt W g 67 1025 (refF N st2) ∧ IntSl .i64 W v13 L ∧ IntSl .i64 W v14 L ∧ Below w.heap.size w W) → Below W.heap.size W W' → (MapAt W' b st2 ∧ RowAt W' g 67 1025 (refF N st2) ∧ IntSl .i64 W' v13 L ∧ IntSl .i64 W' v14 L ∧ Below w.heap.size w W')) := @keepS
        clear keepS
        go_wp2_with fail
        refine wp_region_held_drew (S := fun W => MapAt W b st2 ∧ RowAt W g 67 1025 (refF N st2) ∧ IntSl .i64 W v13 L ∧ IntSl .i64 W v14 L ∧ Below w.heap.size w W) (by kernel_rfl) HS.out (fun hS0 => ?_)
        clear HS hB2
        refine wpAnyH_take (i := 0) (v := .int .i64 i) rfl (by kernel_rfl) (by kernel_rfl) (by kernel_rfl) (fun _ _ _ h => h) (Or.inl ⟨by kernel_rfl, fun w _ => by go_simp⟩) hS0 ?_
        refine wpAnyH_take (i := 1) (v := .int .i64 i) rfl (by kernel_rfl) (by kernel_rfl) (by kernel_rfl) (fun _ _ _ h => h) (Or.inl ⟨by kernel_rfl, fun w _ => by go_simp⟩) hS0 ?_
        refine wpAnyH_take (i := 2) (v := .bool false) rfl (by kernel_rfl) (by kernel_rfl) (by kernel_rfl) (fun _ _ _ h => h) (Or.inl ⟨by kernel_rfl, fun w _ => by go_simp⟩) hS0 ?_
        refine wpAnyH_take (i := 3) (v := .bool false) rfl (by kernel_rfl) (by kernel_rfl) (by kernel_rfl) (fun _ _ _ h => h) (Or.inl ⟨by kernel_rfl, fun w _ => by go_simp⟩) hS0 ?_
        refine wpAnyH_take (i := 4) (v := .int .i64 e) rfl (by kernel_rfl) (by kernel_rfl) (by kernel_rfl) (fun _ _ _ h => h) (Or.inl ⟨by kernel_rfl, fun w _ => by go_simp⟩) hS0 ?_
        refine wpAnyH_take (i := 5) (v := .int .i64 e) rfl (by kernel_rfl) (by kernel_rfl) (by kernel_rfl) (fun _ _ _ h => h) (Or.inl ⟨by kernel_rfl, fun w _ => by go_simp⟩) hS0 ?_
        refine wpAnyH_take (i := 6) (v := .bool false) rfl (by kernel_rfl) (by kernel_rfl) (by kernel_rfl) (fun _ _ _ h => h) (Or.inl ⟨by kernel_rfl, fun w _ => by go_simp⟩) hS0 ?_
        refine wpAnyH_take (i := 7) (v := .bool false) rfl (by kernel_rfl) (by kernel_rfl) (by kernel_rfl) (fun _ _ _ h => h) (Or.inl ⟨by kernel_rfl, fun w _ => by go_simp⟩) hS0 ?_
        refine wpAnyH_take (i := 8) (v := .bool false) rfl (by kernel_rfl) (by kernel_rfl) (by kernel_rfl) (fun _ _ _ h => h) (Or.inl ⟨by kernel_rfl, fun w _ => by go_simp⟩) hS0 ?_
        refine wpAnyH_take (i := 9) (v := v13) rfl (by kernel_rfl) (by kernel_rfl) (by kernel_rfl) (fun _ _ _ h => h) (Or.inl ⟨by kernel_rfl, fun w _ => by go_simp⟩) hS0 ?_
        refine wpAnyH_take (i := 10) (v := v14) rfl (by kernel_rfl) (by kernel_rfl) (by kernel_rfl) (fun _ _ _ h => h) (Or.inl ⟨by kernel_rfl, fun w _ => by go_simp⟩) hS0 ?_
        try simp only [Act.put, List.setIfInBounds_toArray]
        refine wpAnyH_ready (rs := [11]) (by kernel_rfl) (by simp) ?_
        refine AllReadyH.cons rfl (fun K hK => ?_) AllReadyH.nil
        have HS0 := Lib.hid hS0; clear hS0
        go_simp
        refine (sameInts_is true _ _ _ _ (decide_eq_true rfl) _ HS0.out.2.2.1 HS0.out.2.2.2.1).mono ?_
        rintro e6 w6 ⟨rfl, hb6⟩
        have hS1 := HKS.out HS0.out hb6
        have HS1 := Lib.hid hS1; clear hS1 hb6 HS0
        go_wp2_with fail
        refine hK.out _ _ HS1.out (fun hS0 => ?_)
        clear hK K HS1
        refine wpAnyH_take (i := 12) (v := .bool false) rfl (by kernel_rfl) (by kernel_rfl) (by kernel_rfl) (fun _ _ _ h => h) (Or.inl ⟨by kernel_rfl, fun w _ => by go_simp⟩) hS0 ?_
        refine wpAnyH_take (i := 13) (v := .bool false) rfl (by kernel_rfl) (by kernel_rfl) (by kernel_rfl) (fun _ _ _ h => h) (Or.inl ⟨by kernel_rfl, fun w _ => by go_simp⟩) hS0 ?_
        refine wpAnyH_take (i := 14) (v := .bool false) rfl (by kernel_rfl) (by kernel_rfl) (by kernel_rfl) (fun _ _ _ h => h) (Or.inl ⟨by kernel_rfl, fun w _ => by go_simp⟩) hS0 ?_
        refine wpAnyH_take (i := 15) (v := .pointer (some ⟨b, 0, none⟩)) rfl (by kernel_rfl) (by kernel_rfl) (by kernel_rfl) (fun _ _ _ h => h) (Or.inl ⟨by kernel_rfl, fun w _ => by go_simp⟩) hS0 ?_
        refine wpAnyH_take (i := 17) (v := .agg A2) rfl (by kernel_rfl) (by kernel_rfl) (by kernel_rfl) (fun _ _ _ h => h) (held_load_row (by kernel_rfl) 67 (.tmp 8) rfl g 1025 67 (refF N st2) rfl A2 HA2.out _ (fun w h => h.2.1) Try.underlying67 rfl size67) hS0 ?_
        try simp only [Act.put, List.setIfInBounds_toArray]
        refine wpAnyH_ready (rs := [16]) (by kernel_rfl) (by simp) ?_
        refine AllReadyH.cons rfl (fun K hK => ?_) AllReadyH.nil
        have HS0 := Lib.hid hS0; clear hS0
        go_simp
        refine (count_map b st2 _ HS0.out.1).mono ?_
        rw [HCC.out]
        rintro e6 w6 ⟨rfl, rfl⟩
        go_wp2_with fail
        refine hK.out _ _ HS0.out (fun hS0 => ?_)
        clear hK K HS0
        try simp only [Act.put, List.setIfInBounds_toArray]
        refine wpAnyH_ready (rs := [18]) (by kernel_rfl) (by simp) ?_
        refine AllReadyH.cons rfl (fun K hK => ?_) AllReadyH.nil
        have HS0 := Lib.hid hS0; clear hS0
        go_simp
        refine (refcount_any N st2 hgood2 A2 HA2.out _).mono ?_
        rw [HCC.out]
        rintro e6 w6 ⟨rfl, hb6⟩
        have hS1 := HKS.out HS0.out hb6
        have HS1 := Lib.hid hS1; clear hS1 hb6 HS0
        go_wp2_with fail
        refine hK.out _ _ HS1.out (fun hS0 => ?_)
        clear hK K HS1
        refine wpAnyH_take (i := 19) (v := .bool false) rfl (by kernel_rfl) (by kernel_rfl) (by kernel_rfl) (fun _ _ _ h => h) (Or.inl ⟨by kernel_rfl, fun w _ => by go_simp⟩) hS0 ?_
        refine wpAnyH_take (i := 20) (v := .bool false) rfl (by kernel_rfl) (by kernel_rfl) (by kernel_rfl) (fun _ _ _ h => h) (Or.inl ⟨by kernel_rfl, fun w _ => by go_simp⟩) hS0 ?_
        refine wpAnyH_take (i := 21) (v := .bool false) rfl (by kernel_rfl) (by kernel_rfl) (by kernel_rfl) (fun _ _ _ h => h) (Or.inl ⟨by kernel_rfl, fun w _ => by go_simp⟩) hS0 ?_
        refine wpAnyH_take (i := 22) (v := .pointer (some ⟨b, 0, none⟩)) rfl (by kernel_rfl) (by kernel_rfl) (by kernel_rfl) (fun _ _ _ h => h) (Or.inl ⟨by kernel_rfl, fun w _ => by go_simp⟩) hS0 ?_
        refine wpAnyH_take (i := 23) (v := .int .i64 qs) rfl (by kernel_rfl) (by kernel_rfl) (by kernel_rfl) (fun _ _ _ h => h) (Or.inl ⟨by kernel_rfl, fun w _ => by go_simp⟩) hS0 ?_
        refine wpAnyH_take (i := 25) (v := .agg A2) rfl (by kernel_rfl) (by kernel_rfl) (by kernel_rfl) (fun _ _ _ h => h) (held_load_row (by kernel_rfl) 67 (.tmp 8) rfl g 1025 67 (refF N st2) rfl A2 HA2.out _ (fun w h => h.2.1) Try.underlying67 rfl size67) hS0 ?_
        refine wpAnyH_take (i := 26) (v := .int .i64 qs) rfl (by kernel_rfl) (by kernel_rfl) (by kernel_rfl) (fun _ _ _ h => h) (Or.inl ⟨by kernel_rfl, fun w _ => by go_simp⟩) hS0 ?_
        try simp only [Act.put, List.setIfInBounds_toArray]
        refine wpAnyH_ready (rs := [24]) (by kernel_rfl) (by simp) ?_
        refine AllReadyH.cons rfl (fun K hK => ?_) AllReadyH.nil
        have HS0 := Lib.hid hS0; clear hS0
        go_simp
        refine (room_is r b st2 qs HRR.out _ HS0.out.1).mono ?_
        rintro e6 w6 ⟨rfl, rfl⟩
        go_wp2_with fail
        refine hK.out _ _ HS0.out (fun hS0 => ?_)
        clear hK K HS0
        try simp only [Act.put, List.setIfInBounds_toArray]
        refine wpAnyH_ready (rs := [27]) (by kernel_rfl) (by simp) ?_
        refine AllReadyH.cons rfl (fun K hK => ?_) AllReadyH.nil
        have HS0 := Lib.hid hS0; clear hS0
        go_simp
        refine (refroom_is r N st2 hgood2 qs HRR.out A2 HA2.out _).mono ?_
        rintro e6 w6 ⟨rfl, hb6⟩
        have hS1 := HKS.out HS0.out hb6
        have HS1 := Lib.hid hS1; clear hS1 hb6 HS0
        go_wp2_with fail
        refine hK.out _ _ HS1.out (fun hS0 => ?_)
        clear hK K HS1
        refine wpAnyH_take (i := 28) (v := .bool false) rfl (by kernel_rfl) (by kernel_rfl) (by kernel_rfl) (fun _ _ _ h => h) (Or.inl ⟨by kernel_rfl, fun w _ => by go_simp⟩) hS0 ?_
        refine wpAnyH_take (i := 29) (v := .bool false) rfl (by kernel_rfl) (by kernel_rfl) (by kernel_rfl) (fun _ _ _ h => h) (Or.inl ⟨by kernel_rfl, fun w _ => by go_simp⟩) hS0 ?_
        simp only [Act.put, List.setIfInBounds_toArray]
        refine ⟨by kernel_rfl, ?_⟩
        obtain ⟨hm3, hr3, _, _, hB3⟩ := hS0
        have hz3 := hB3.size
        have hb3 := hm3.lt
        have hg3 := hr3.lt
        have HM3 := Lib.hid hm3; clear hm3
        have HR3 := Lib.hid hr3; clear hr3
        clear HKS
        by_cases hmid : k = l.length / 2
        · have hmid' : ((k : Int) == (l.length : Int) / 2) = true := by rw [beq_iff_eq]; omega
          have HMID := Lib.hid hmid; clear hmid
          go_wp2_with fail
          refine (copy_any b st2 _ HM3.out).mono ?_
          rintro e6 w14 ⟨rfl, hm14, hb14⟩
          obtain ⟨c, hc⟩ : ∃ c, c = w6.heap.size := ⟨_, rfl⟩
          have hB14 := Below.step hB3 hB3.size hb14
          have hM14 := HM3.out.below hb14
          have hR14 := RowAt.below HR3.out hb14
          rw [← hc] at hm14 ⊢
          have hbc : b ≠ c := by omega
          have hgc : g ≠ c := by omega
          have hwc : w.heap.size ≤ c := by omega
          clear hc hb14
          have HC14 := Lib.hid hm14; clear hm14
          go_wp2_with fail
          refine (many_any c st2 5 (by unfold inI64; omega) _ HC14.out).mono ?_
          rintro e6 w15 ⟨v15, rfl, _, hm15, hb15⟩
          have hB15 := hB14.trans (hb15.below hwc hB14.size)
          have hM15 := hM14.of_but hb15 hbc
          have hR15 := row_but' hR14 hb15 hgc
          have HC15 := Lib.hid hm15; clear hm15 hb15
          go_wp2_with fail
          refine (commit_any c _ _ HC15.out).mono ?_
          rintro e6 w16 ⟨rfl, _, hb16⟩
          have hB16 := hB15.trans (hb16.below hwc hB15.size)
          have HM16 := Lib.hid (hM15.of_but hb16 hbc)
          have HR16 := Lib.hid (row_but' hR15 hb16 hgc)
          clear hM14 hR14 hM15 hR15 hb16 HC14 HC15
          go_wp2
          go_roundw
          case rel => exact ⟨k + 1, st2, by omega, by go_num, hgood2, HM16, HR16, hB16⟩
          case measure => simp [intOf]; omega
        · have hmid' : ((k : Int) == (l.length : Int) / 2) = false := by rw [beq_eq_false_iff_ne]; omega
          have HMID := Lib.hid hmid; clear hmid
          go_wp2
          go_roundw
          case rel => exact ⟨k + 1, st2, by omega, by go_num, hgood2, HM3, HR3, hB3⟩
          case measure => simp [intOf]; omega
    · have hle : ¬ (k : Int) < (l.length : Int) := by omega
      clear hlt
      obtain ⟨A2, hA2⟩ : ∃ A, A = arrOf 1025 (refF N st) := ⟨_, rfl⟩
      have HA2 := Lib.hid hA2; clear hA2
      have HKS : Hid (∀ {W W' : World}, (MapAt W b st ∧ RowAt W g 67 1025 (refF N st) ∧ Below w.heap.size w W) → Below W.heap.size W W' → (MapAt W' b st ∧ RowAt W' g 67 1025 (refF N st) ∧ Below w.heap.size w W')) := fun h hb => ⟨h.1.below hb, RowAt.below h.2.1 hb, Below.step h.2.2 h.2.2.size hb⟩
      have hS : MapAt wr.drew b st ∧ RowAt wr.drew g 67 1025 (refF N st) ∧ Below w.heap.size w wr.drew := ⟨HM.out, HR.out, hbel.drew⟩
      have HS := Lib.hid hS; clear hS HM HR hbel
      go_wp2_with fail
      refine wp_region_held_drew (S := fun W => MapAt W b st ∧ RowAt W g 67 1025 (refF N st) ∧ Below w.heap.size w W) (by kernel_rfl) HS.out (fun hS0 => ?_)
      clear HS
      refine wpAnyH_take (i := 0) (v := .pointer (some ⟨b, 0, none⟩)) rfl (by kernel_rfl) (by kernel_rfl) (by kernel_rfl) (fun _ _ _ h => h) (Or.inl ⟨by kernel_rfl, fun w _ => by go_simp⟩) hS0 ?_
      refine wpAnyH_take (i := 2) (v := .agg A2) rfl (by kernel_rfl) (by kernel_rfl) (by kernel_rfl) (fun _ _ _ h => h) (held_load_row (by kernel_rfl) 67 (.tmp 8) rfl g 1025 67 (refF N st) rfl A2 HA2.out _ (fun w h => h.2.1) Try.underlying67 rfl size67) hS0 ?_
      try simp only [Act.put, List.setIfInBounds_toArray]
      refine wpAnyH_ready (rs := [1]) (by kernel_rfl) (by simp) ?_
      refine AllReadyH.cons rfl (fun K hK => ?_) AllReadyH.nil
      have HS0 := Lib.hid hS0; clear hS0
      go_simp
      refine (taken_any b st _ HS0.out.1).mono ?_
      rintro e6 w6 ⟨r1, rfl, hr1, hb6⟩
      have HR1 := Lib.hid hr1; clear hr1
      have hS1 := HKS.out HS0.out hb6
      have HS1 := Lib.hid hS1; clear hS1 hb6 HS0
      go_wp2_with fail
      refine hK.out _ _ HS1.out (fun hS0 => ?_)
      clear hK K HS1
      try simp only [Act.put, List.setIfInBounds_toArray]
      refine wpAnyH_ready (rs := [3]) (by kernel_rfl) (by simp) ?_
      refine AllReadyH.cons rfl (fun K hK => ?_) AllReadyH.nil
      have HS0 := Lib.hid hS0; clear hS0
      go_simp
      refine (refset67_any N st hgood 2 (by omega) 1 rfl A2 HA2.out _).mono ?_
      rintro e6 w7 ⟨r3, rfl, hr3, hb6⟩
      have HR3 := Lib.hid hr3; clear hr3
      have HR1' := Lib.hid (show OwnSp w7 _ r1 (setN st 2) from owns_below HR1.out hb6)
      clear HR1
      have hS1 := HKS.out HS0.out hb6
      have HS1 := Lib.hid hS1; clear hS1 hb6 HS0
      go_wp2_with fail
      refine hK.out _ _ HS1.out (fun hS0 => ?_)
      clear hK K HS1
      try simp only [Act.put, List.setIfInBounds_toArray]
      refine wpAnyH_ready (rs := [4]) (by kernel_rfl) (by simp) ?_
      refine AllReadyH.cons rfl (fun K hK => ?_) AllReadyH.nil
      have HS0 := Lib.hid hS0; clear hS0
      go_simp
      refine (same_is true _ _ _ _ (decide_eq_true rfl) _ (setN_own HR1'.out) (setN_own HR3.out)).mono ?_
      rintro e6 w8 ⟨rfl, hb6⟩
      clear HR1' HR3
      have hS1 := HKS.out HS0.out hb6
      have HS1 := Lib.hid hS1; clear hS1 hb6 HS0
      go_wp2_with fail
      refine hK.out _ _ HS1.out (fun hS0 => ?_)
      clear hK K HS1
      refine wpAnyH_take (i := 5) (v := .bool true) rfl (by kernel_rfl) (by kernel_rfl) (by kernel_rfl) (fun _ _ _ h => h) (Or.inl ⟨by kernel_rfl, fun w _ => by go_simp⟩) hS0 ?_
      refine wpAnyH_take (i := 6) (v := .pointer (some ⟨b, 0, none⟩)) rfl (by kernel_rfl) (by kernel_rfl) (by kernel_rfl) (fun _ _ _ h => h) (Or.inl ⟨by kernel_rfl, fun w _ => by go_simp⟩) hS0 ?_
      refine wpAnyH_take (i := 8) (v := .agg A2) rfl (by kernel_rfl) (by kernel_rfl) (by kernel_rfl) (fun _ _ _ h => h) (held_load_row (by kernel_rfl) 67 (.tmp 8) rfl g 1025 67 (refF N st) rfl A2 HA2.out _ (fun w h => h.2.1) Try.underlying67 rfl size67) hS0 ?_
      try simp only [Act.put, List.setIfInBounds_toArray]
      refine wpAnyH_ready (rs := [7]) (by kernel_rfl) (by simp) ?_
      refine AllReadyH.cons rfl (fun K hK => ?_) AllReadyH.nil
      have HS0 := Lib.hid hS0; clear hS0
      go_simp
      refine (waiting_any b st _ HS0.out.1).mono ?_
      rintro e6 w9 ⟨r1, rfl, hr1, hb6⟩
      have HR1 := Lib.hid hr1; clear hr1
      have hS1 := HKS.out HS0.out hb6
      have HS1 := Lib.hid hS1; clear hS1 hb6 HS0
      go_wp2_with fail
      refine hK.out _ _ HS1.out (fun hS0 => ?_)
      clear hK K HS1
      try simp only [Act.put, List.setIfInBounds_toArray]
      refine wpAnyH_ready (rs := [9]) (by kernel_rfl) (by simp) ?_
      refine AllReadyH.cons rfl (fun K hK => ?_) AllReadyH.nil
      have HS0 := Lib.hid hS0; clear hS0
      go_simp
      refine (refset67_any N st hgood 3 (by omega) 2 rfl A2 HA2.out _).mono ?_
      rintro e6 w10 ⟨r3, rfl, hr3, hb6⟩
      have HR3 := Lib.hid hr3; clear hr3
      have HR1' := Lib.hid (show OwnSp w10 _ r1 (setN st 3) from owns_below HR1.out hb6)
      clear HR1
      have hS1 := HKS.out HS0.out hb6
      have HS1 := Lib.hid hS1; clear hS1 hb6 HS0
      go_wp2_with fail
      refine hK.out _ _ HS1.out (fun hS0 => ?_)
      clear hK K HS1
      try simp only [Act.put, List.setIfInBounds_toArray]
      refine wpAnyH_ready (rs := [10]) (by kernel_rfl) (by simp) ?_
      refine AllReadyH.cons rfl (fun K hK => ?_) AllReadyH.nil
      have HS0 := Lib.hid hS0; clear hS0
      go_simp
      refine (same_is true _ _ _ _ (decide_eq_true rfl) _ (setN_own HR1'.out) (setN_own HR3.out)).mono ?_
      rintro e6 w11 ⟨rfl, hb6⟩
      clear HR1' HR3
      have hS1 := HKS.out HS0.out hb6
      have HS1 := Lib.hid hS1; clear hS1 hb6 HS0
      go_wp2_with fail
      refine hK.out _ _ HS1.out (fun hS0 => ?_)
      clear hK K HS1
      refine wpAnyH_take (i := 11) (v := .bool true) rfl (by kernel_rfl) (by kernel_rfl) (by kernel_rfl) (fun _ _ _ h => h) (Or.inl ⟨by kernel_rfl, fun w _ => by go_simp⟩) hS0 ?_
      refine wpAnyH_take (i := 12) (v := .bool true) rfl (by kernel_rfl) (by kernel_rfl) (by kernel_rfl) (fun _ _ _ h => h) (Or.inl ⟨by kernel_rfl, fun w _ => by go_simp⟩) hS0 ?_
      simp only [Act.put, List.setIfInBounds_toArray, List.getElem_toArray, List.getElem_cons_zero, List.getElem_cons_succ]
      refine ⟨by kernel_rfl, ?_⟩
      obtain ⟨_, _, hBF⟩ := hS0
      clear HKS
      go_wp2
      go_ret
      exact ⟨rfl, hBF⟩

theorem slabRuns_holds : Rows.SlabRunsSaid := slabRuns_of slabRuns_walk

end Go.Proofs.Ytaeklmnleampcaa
