/- Walks of a map's Many and of the example of maps. -/
import Derived.Test.YtaeklmnleampcaaSh
namespace Go.Proofs.Ytaeklmnleampcaa
open Go.RowKit

theorem owns_but {w w' : World} {base b : Nat} {e : TypeId} {size : Nat} {v : Value} {n : Nat} {xs : List Value} {st : Nat → Nat} (he : e ≠ 104) (h : w.ownsRow base e size v n xs) (hm : MapAt w b st) (hb : But b w w') : w'.ownsRow base e size v n xs := by
  refine ⟨h.1, h.2.imp id fun ⟨g, cap, cur, h1, h2, hg, r⟩ => ⟨g, cap, cur, h1, h2, ?_, r⟩⟩
  have hne : g ≠ b := by
    rintro rfl
    unfold MapAt RowAt at hm
    rw [hg] at hm
    exact he (Obj.cells.inj (Option.some.inj hm)).2.1
  rw [hb.block g (Array.getElem?_eq_some_iff.1 hg).1 hne]
  exact hg

theorem But.grown {b : Nat} {w wr w2 : World} {row : Option Nat} (h : But b w wr) (hg : wr.grownBy w2 row) (hr : ∀ k, row = some k → w.heap.size ≤ k) : But b w w2 :=
  ⟨hg.os.trans h.os, hg.tape.trans h.tape, hg.output.trans h.output, Nat.le_trans h.size hg.size, fun k hk hkb =>
    (hg.block k (Nat.lt_of_lt_of_le hk h.size) (fun e => absurd (hr k e.symm) (by omega))).trans (h.block k hk hkb)⟩

theorem But.alloc {b : Nat} {w wr : World} (h : But b w wr) (o : Obj) : But b w (wr.alloc o) := h.trans (But.of_below ((Below.refl _ _).alloc (Nat.le_refl _) o))

def natsV (l : List Nat) : List Value := l.map fun i => .int .i64 (i : Nat)

def manyO (st : Nat → Nat) (n : Int) : Option (List Nat × (Nat → Nat)) := if n ≤ (countN st : Nat) then some (manyN st n.toNat) else none

theorem natsV_map (l : List Nat) : natsV l = (l.map fun (i : Nat) => (i : Int)).map (Value.int .i64) := by unfold natsV; simp

def lenV : Value → Nat
  | .slice _ n _ => n
  | _ => 0

def codeM {α : Type} (o : Option α) : Int := if o.isSome = true then 0 else 71

/-- What Many leaves: the list and the map. -/
def manyL (st : Nat → Nat) (n : Int) : List Nat := ((manyO st n).map (·.1)).getD []
def manyS (st : Nat → Nat) (n : Int) : Nat → Nat := ((manyO st n).map (·.2)).getD st

theorem manyN_in (st : Nat → Nat) (k : Nat) : ∀ i ∈ (manyN st k).1, i < 1024 := by
  induction k with
  | zero => intro i hi; cases hi
  | succ k ih =>
    cases ha : allocN (manyN st k).2 with
    | none => rw [show manyN st (k + 1) = (match allocN (manyN st k).2 with | some i => ((manyN st k).1 ++ [i], putN (manyN st k).2 i 2) | none => manyN st k) from rfl, ha]; exact ih
    | some j =>
      rw [manyN_step st ha]
      intro i hi
      simp only [List.mem_append, List.mem_singleton] at hi
      rcases hi with hi | rfl
      · exact ih i hi
      · exact (allocN_some ha).1

theorem owns_nats {w : World} {base : Nat} {v : Value} {l : List Nat} (h : w.ownsRow base 3 1 v l.length (natsV l)) (hl : ∀ i ∈ l, i < 1024) (hn : l.length ≤ 1024) : IntSl .i64 w v (l.map fun (i : Nat) => (i : Int)) := by
  rw [natsV_map] at h
  refine intSl_of_owns (by simpa using h) ?_ (by simp; omega)
  intro x hx
  obtain ⟨i, hi, rfl⟩ := List.mem_map.1 hx
  have := hl i hi
  exact WalkArith.wf_i64 (by omega)

set_option maxRecDepth 100000 in
set_option maxHeartbeats 8000000 in
theorem many_any (b : Nat) (st : Nat → Nat) (n : Int) (hn : inI64 n) (w : World) (hm : MapAt w b st) :
    Calls Try.prog 55 #[.pointer (some ⟨b, 0, none⟩), .int .i64 n] w fun e w' => ∃ v, e = .returned (.tuple #[v, .int .i64 (codeM (manyO st n))]) ∧ w'.ownsRow w.heap.size 3 1 v (manyL st n).length (natsV (manyL st n)) ∧ MapAt w' b (manyS st n) ∧ But b w w' := by
  obtain ⟨i0, hi, hz0, hz1', hz2⟩ := info_parts Try.info3
  unfold inI64 at hn
  have hblt := hm.lt
  have HM := Lib.hid hm; clear hm
  have hcl : countN st ≤ 1024 := by rw [countN_eq]; exact cntTo_le _ _ _
  have hown0 := World.ownsRow_nil w w.heap.size 3 1
  by_cases hbig : ¬ n ≤ (countN st : Nat)
  · have h1 : manyO st n = none := if_neg hbig
    have h2 : manyL st n = [] := by unfold manyL; rw [h1]; rfl
    have h3 : manyS st n = st := by unfold manyS; rw [h1]; rfl
    rw [h1, h2, h3]
    have hc : codeM (none : Option (List Nat × (Nat → Nat))) = 71 := rfl
    rw [hc]
    clear h1 h2 h3 hc
    have hbig' : ((countN st : Nat) : Int) < n := by omega
    obtain ⟨C, hC⟩ : ∃ C, countN st = C := ⟨_, rfl⟩
    rw [hC] at hbig' hbig hcl
    have HC := Lib.hid hC; clear hC
    go_enter Try.func55, Try.ntmps55
    go_wp2_with fail
    refine (count_map b st _ HM.out).mono ?_
    rw [HC.out]
    rintro e w1 ⟨rfl, rfl⟩
    go_wp2
    refine bodyPost_ret (v := .tuple #[.slice none 0 0, .int .i64 71]) (by simp [results, Try.results55, go_sem]) rfl ⟨_, rfl, hown0, HM.out, But.refl _ _⟩
  have hsm : n ≤ (countN st : Nat) := by omega
  have h1 : manyO st n = some (manyN st n.toNat) := if_pos hsm
  have h2 : manyL st n = (manyN st n.toNat).1 := by unfold manyL; rw [h1]; rfl
  have h3 : manyS st n = (manyN st n.toNat).2 := by unfold manyS; rw [h1]; rfl
  rw [h1, h2, h3]
  have hc : codeM (some (manyN st n.toNat)) = 0 := rfl
  rw [hc]
  clear h1 h2 h3 hc hbig
  obtain ⟨N, hN⟩ : ∃ N, n.toNat = N := ⟨_, rfl⟩
  rw [hN]
  have hNC : N ≤ countN st := by omega
  have hNn : ∀ k : Nat, k ≤ N → ((k : Int) < n ↔ k < N) := by intro k _; omega
  have HNN := Lib.hid hNn; clear hNn
  have hsm' : ¬ ((countN st : Nat) : Int) < n := by omega
  obtain ⟨C, hC⟩ : ∃ C, countN st = C := ⟨_, rfl⟩
  rw [hC] at hsm' hsm hcl hNC
  have HC := Lib.hid hC; clear hC
  have hb0 := But.refl b w
  have HM0 : Hid (MapAt w b (manyN st 0).2) := HM.out
  clear hN
  go_enter Try.func55, Try.ntmps55
  go_wp2_with fail
  refine (count_map b st _ HM.out).mono ?_
  rw [HC.out]
  rintro e w1 ⟨rfl, rfl⟩
  go_wp2_with fail
  go_loopw [6] (fun v wr => ∃ (k c : Nat) (a : Option Addr), k ≤ N ∧ v = .slice a k c ∧ wr.ownsRow w.heap.size 3 1 (.slice a k c) k (natsV (manyN st k).1) ∧ Hid (MapAt wr b (manyN st k).2) ∧ But b w wr)
    (fun v _ => N - lenV v)
  case atStart => exact ⟨0, 0, none, Nat.zero_le _, rfl, hown0, HM0, hb0⟩
  case round =>
    clear hown0 hb0 HM0
    obtain ⟨k, c, a, hk, rfl, hown, HMK, hbut⟩ := hrel
    have hsz := hbut.size
    by_cases hlt : k < N
    · have hlt' : (k : Int) < n := (HNN.out k hk).2 hlt
      obtain ⟨h1, h2⟩ := manyN_count st (k := k) (by have := HC.out; omega)
      obtain ⟨j, hj⟩ := allocN_pos (st := (manyN st k).2) (by have := HC.out; omega)
      have hstep := manyN_step st hj
      obtain ⟨e1, e2, e3⟩ := alloc_some hj
      have hj4 := (allocN_some hj).1
      have HST := Lib.hid hstep; clear hstep
      have HE1 := Lib.hid e1; clear e1
      have HE2 := Lib.hid e2; clear e2
      have HE3 := Lib.hid e3; clear e3
      clear h1 h2 hj
      go_wp2_with fail
      refine (alloc_any b _ _ HMK.out).mono ?_
      rw [HE1.out, HE2.out, HE3.out]
      rintro e w2 ⟨rfl, hm2, hb2⟩
      have hown2 := owns_but (by decide) hown HMK.out hb2
      have hbut2 := hbut.trans hb2
      have HM2 := Lib.hid hm2; clear hm2 hb2 hown
      have hsz2 := hbut2.size
      have HLT := Lib.hid hown2.lt
      go_wp2_with (first | (at_builtin; refine wpList_append_own _ rfl (.tmp 25) (.tmp 27) 23 rfl w.heap.size 3 i0 (.int .i64 0) 1 8 Try.underlying23 hi hz0 hz1' hz2 rfl (by decide) _ _ _ rfl (hown2.alloc _) ⟨w2.heap.size, 0, none⟩ 1 1 [.int .i64 j] rfl rfl (cell_one_new _ _ _) (by simp [Value.oneCell']) (by unfold maxLen; omega) (by omega) (by simp; omega) ?_; intro v' w3 hown3 hgrow3 _))
      have hbut3 := (hbut2.alloc (.cells #[.int .i64 j] 3)).grown hgrow3 (fun k h => (HLT.out k h).1)
      have hm3 : MapAt w3 b (putN (manyN st k).2 j 2) := RowAt.grown (RowAt.alloc_old HM2.out _) hgrow3 (by
        intro h
        have := (HLT.out b h).1
        omega)
      have HM3 := Lib.hid hm3; clear hm3 hgrow3
      obtain ⟨a', c', rfl⟩ : ∃ a c, v' = .slice a (k + 1) c := by
        rcases owns_shape hown3 with ⟨_, h0⟩ | ⟨g, cap, h, _⟩
        · omega
        · exact ⟨_, _, h⟩
      go_roundw
      case rel =>
        refine ⟨k + 1, c', a', by omega, rfl, ?_, ?_, hbut3⟩
        · rw [HST.out]
          show w3.ownsRow w.heap.size 3 1 _ _ (natsV ((manyN st k).1 ++ [j]))
          unfold natsV
          rw [List.map_append]
          exact hown3
        · rw [HST.out]
          exact HM3
      case measure => simp [lenV]; omega
    · obtain rfl : k = N := by omega
      have hlt' : ¬ (k : Int) < n := fun h => hlt ((HNN.out k hk).1 h)
      have hkl : Hid ((manyN st k).1.length = k) := (manyN_count st (k := k) (by have := HC.out; omega)).2
      have HOWN := Lib.hid hown; clear hown
      go_wp2
      refine bodyPost_ret (v := .tuple #[.slice a k c, .int .i64 0]) (by simp [results, Try.results55, go_sem]) rfl ⟨_, rfl, by rw [hkl.out]; exact HOWN.out, HMK.out, hbut⟩

end Go.Proofs.Ytaeklmnleampcaa
