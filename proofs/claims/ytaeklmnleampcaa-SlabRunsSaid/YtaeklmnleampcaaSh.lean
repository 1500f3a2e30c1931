/- Walks of a map's all, Taken, Waiting and Many. -/
import Derived.Test.YtaeklmnleampcaaSg
import Derived.Test.YtaeklmnleampcaaOo
namespace Go.Proofs.Ytaeklmnleampcaa
open Go.RowKit

/-- A row of one's own stays where a map turns. -/
theorem OwnSp.but {w w' : World} {base b : Nat} {v : Value} {l : List (Int × Int)} {st : Nat → Nat} (h : OwnSp w base v l) (hm : MapAt w b st) (hb : But b w w') : OwnSp w' base v l := by
  refine ⟨h.1, h.2.imp id fun ⟨g, cap, cur, h1, h2, hg, r⟩ => ⟨g, cap, cur, h1, h2, ?_, r⟩⟩
  have hne : g ≠ b := by
    rintro rfl
    unfold MapAt RowAt at hm
    rw [hg] at hm
    have := (Obj.cells.inj (Option.some.inj hm)).2.1
    exact absurd this (by decide)
  rw [hb.block g (Array.getElem?_eq_some_iff.1 hg).1 hne]
  exact hg

/-- The sectors that are s. -/
def setN (st : Nat → Nat) (s : Nat) : List (Int × Int) := spansOf fun n => decide (n < 1024 ∧ st n = s)

theorem setN_own {w : World} {base : Nat} {v : Value} {st : Nat → Nat} {s : Nat} (h : OwnSp w base v (setN st s)) : SpanSl w v (setN st s) := OwnSp.sl h

theorem setN_list (st : Nat → Nat) (s : Nat) : spansOf (numsF (listTo (fun n => st n == s) 1024)) = setN st s := by
  unfold setN
  refine spansOf_congr fun n hn => ?_
  unfold numsF
  rw [Bool.eq_iff_iff, decide_eq_true_eq, decide_eq_true_eq, mem_listTo]
  constructor
  · rintro ⟨_, h2, h3⟩; exact ⟨by omega, by simpa using h3⟩
  · rintro ⟨h2, h3⟩; exact ⟨by omega, by omega, by simpa using h3⟩

theorem setN_congr {st st' : Nat → Nat} {s s' : Nat} (h : ∀ n, n < 1024 → (st n = s ↔ st' n = s')) : setN st s = setN st' s' := by
  unfold setN
  refine spansOf_congr fun n _ => ?_
  rw [Bool.eq_iff_iff, decide_eq_true_eq, decide_eq_true_eq]
  constructor
  · rintro ⟨h1, h2⟩; exact ⟨h1, (h n h1).1 h2⟩
  · rintro ⟨h1, h2⟩; exact ⟨h1, (h n h1).2 h2⟩

theorem MapAt.belowB {B b : Nat} {w w' : World} {st : Nat → Nat} (h : MapAt w b st) (hb : Below B w w') (hB : b < B) : MapAt w' b st := RowAt.belowB h hb hB

theorem MapAt.lt {b : Nat} {w : World} {st : Nat → Nat} (h : MapAt w b st) : b < w.heap.size := RowAt.lt h

set_option maxRecDepth 100000 in
set_option maxHeartbeats 4000000 in
theorem all_any (b : Nat) (st : Nat → Nat) (s : Nat) (w : World) (hm : MapAt w b st) :
    Calls Try.prog 83 #[.pointer (some ⟨b, 0, none⟩), .int .u8 (s : Nat)] w fun e w' => ∃ r, e = .returned r ∧ OwnSp w' w.heap.size r (setN st s) ∧ Below w.heap.size w w' := by
  obtain ⟨i0, hi, hz0, hz1', hz2⟩ := info_parts Try.info3
  have HM := Lib.hid hm; clear hm
  have hown0 := World.ownsRow_nil w w.heap.size 3 1
  obtain ⟨f, hf⟩ : ∃ f : Nat → Bool, f = fun n => st n == s := ⟨_, rfl⟩
  have hfl : spansOf (numsF (listTo f 1024)) = setN st s := by rw [hf]; exact setN_list st s
  have HFL := Lib.hid hfl; clear hfl
  have HF : Hid (∀ k : Nat, k < 1024 → decide (0 ≤ (k : Int) ∧ (k : Int) < 1024 ∧ st (k : Int).toNat = s) = f k) := by
    intro k hk
    rw [hf, Bool.eq_iff_iff, decide_eq_true_eq, Int.toNat_natCast, beq_iff_eq]
    constructor
    · exact fun h => h.2.2
    · exact fun h => ⟨by omega, by omega, h⟩
  clear hf
  go_enter Try.func83, Try.ntmps83
  go_wp2_with fail
  go_loopw [5, 7] (fun v i wr => ∃ (k : Nat), k ≤ 1024 ∧ i = .int .i64 k ∧ wr.ownsRow w.heap.size 3 1 v (listTo f k).length ((listTo f k).map (Value.int .i64)) ∧ Below w.heap.size w wr)
    (fun _ i _ => 1024 - (intOf i).toNat)
  case atStart => exact ⟨0, by omega, rfl, hown0, Below.refl _ _⟩
  case round =>
    clear hown0
    obtain ⟨k, hk, rfl, hown, hbel⟩ := hrel
    have hsz := hbel.size
    by_cases hlt : k < 1024
    · have hi1 : (k : Int) < 1024 := by omega
      have hki : inI64 (k : Int) := by unfold inI64; omega
      have hd := HF.out k hlt
      have HMR := Lib.hid (HM.out.belowB hbel HM.out.lt)
      have hle := listTo_length_le f k
      by_cases hfk : f k = true
      · rw [hfk] at hd
        have HS5 : Hid (listTo f (k + 1) = listTo f k ++ [(k : Int)]) := by unfold Hid; rw [listTo_succ, if_pos hfk]
        have HD := Lib.hid hd; clear hd hfk
        have HLT := Lib.hid hown.lt
        go_wp2_with fail
        refine (is_any b st k s _ HMR.out hki).mono ?_
        rw [HD.out]
        rintro e w1 ⟨rfl, rfl⟩
        go_wp2_with (first | (at_builtin; refine wpList_append_own _ rfl (.tmp 14) (.tmp 16) 23 rfl w.heap.size 3 i0 (.int .i64 0) 1 8 Try.underlying23 hi hz0 hz1' hz2 rfl (by decide) _ _ _ rfl (hown.alloc _) ⟨wr.heap.size, 0, none⟩ 1 1 [.int .i64 k] rfl rfl (cell_one_new _ _ _) (by simp [Value.oneCell']) (by unfold maxLen; omega) (by omega) (by simp; omega) ?_; intro v' w2 hown' hgrow _))
        go_roundw
        case rel =>
          refine ⟨k + 1, by omega, by go_num, ?_, (hbel.alloc (by omega) _).grown hgrow (by simp; omega) (fun j h => (HLT.out j h).1)⟩
          rw [HS5.out, List.length_append, List.map_append]
          exact hown'
        case measure => simp [intOf]; omega
      · have hf' : f k = false := by simpa using hfk
        rw [hf'] at hd
        have HS5 : Hid (listTo f (k + 1) = listTo f k) := by unfold Hid; rw [listTo_succ, if_neg hfk]
        have HD := Lib.hid hd; clear hd hf' hfk
        go_wp2_with fail
        refine (is_any b st k s _ HMR.out hki).mono ?_
        rw [HD.out]
        rintro e w1 ⟨rfl, rfl⟩
        go_wp2
        go_roundw
        case rel => exact ⟨k + 1, by omega, by go_num, by rw [HS5.out]; exact hown, hbel⟩
        case measure => simp [intOf]; omega
    · obtain rfl : k = 1024 := by omega
      have hx := intSl_of_owns hown (listTo_wf f 1024 (by omega)) (Nat.le_trans (listTo_length_le f 1024) (by omega))
      have HX := Lib.hid hx
      clear hown hx
      go_wp2_with fail
      refine (of_own _ _ _ HX.out).mono ?_
      rw [HFL.out]
      rintro e w5 ⟨y, rfl, hy, hb5⟩
      have hB5 := Below.step hbel hsz hb5
      have HY := Lib.hid hy; clear hy
      go_wp2
      go_ret
      exact ⟨y, rfl, HY.out.mono hsz, hB5⟩

set_option maxRecDepth 100000 in
theorem taken_any (b : Nat) (st : Nat → Nat) (w : World) (hm : MapAt w b st) :
    Calls Try.prog 51 #[.pointer (some ⟨b, 0, none⟩)] w fun e w' => ∃ r, e = .returned r ∧ OwnSp w' w.heap.size r (setN st 2) ∧ Below w.heap.size w w' := by
  have HM := Lib.hid hm; clear hm
  go_enter Try.func51, Try.ntmps51
  go_wp2_with fail
  refine (all_any b st 2 _ HM.out).mono ?_
  rintro e w1 ⟨y, rfl, hy, hb1⟩
  have HY := Lib.hid hy; clear hy
  go_wp2
  go_ret
  exact ⟨y, rfl, HY.out, hb1⟩

set_option maxRecDepth 100000 in
theorem waiting_any (b : Nat) (st : Nat → Nat) (w : World) (hm : MapAt w b st) :
    Calls Try.prog 60 #[.pointer (some ⟨b, 0, none⟩)] w fun e w' => ∃ r, e = .returned r ∧ OwnSp w' w.heap.size r (setN st 3) ∧ Below w.heap.size w w' := by
  have HM := Lib.hid hm; clear hm
  go_enter Try.func60, Try.ntmps60
  go_wp2_with fail
  refine (all_any b st 3 _ HM.out).mono ?_
  rintro e w1 ⟨y, rfl, hy, hb1⟩
  have HY := Lib.hid hy; clear hy
  go_wp2
  go_ret
  exact ⟨y, rfl, HY.out, hb1⟩

end Go.Proofs.Ytaeklmnleampcaa
