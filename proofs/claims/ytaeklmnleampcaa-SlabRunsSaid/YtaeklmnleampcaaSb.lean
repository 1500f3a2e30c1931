/- A map of sectors in memory: a block of 1040 cells; and the walks of set, is, change, Take, Free and Later. -/
import Derived.Test.YtaeklmnleampcaaSa
import Derived.Test.YtaeklmnleampcaaRs
import Derived.Deep.RegionHeld3
import Derived.StillTailTactics
namespace Go.Proofs.Ytaeklmnleampcaa
open Go.RowKit

/-- All is as it was but for block b and new blocks. -/
structure But (b : Nat) (w w' : World) : Prop where
  os : w'.os = w.os
  tape : w'.tape = w.tape
  output : w'.output = w.output
  size : w.heap.size ≤ w'.heap.size
  block : ∀ k, k < w.heap.size → k ≠ b → w'.heap[k]? = w.heap[k]?

theorem But.refl (b : Nat) (w : World) : But b w w := ⟨rfl, rfl, rfl, Nat.le_refl _, fun _ _ _ => rfl⟩

theorem But.trans {b : Nat} {w w1 w2 : World} (h : But b w w1) (k : But b w1 w2) : But b w w2 :=
  ⟨k.os.trans h.os, k.tape.trans h.tape, k.output.trans h.output, Nat.le_trans h.size k.size, fun i hi hb => (k.block i (Nat.lt_of_lt_of_le hi h.size) hb).trans (h.block i hi hb)⟩

theorem But.of_below {b : Nat} {w w' : World} (h : Below w.heap.size w w') : But b w w' := ⟨h.os, h.tape, h.output, h.size, fun k hk _ => h.block k hk⟩

theorem But.drew {b : Nat} {w w' : World} (h : But b w w') : But b w w'.drew := ⟨h.os, h.tape, h.output, h.size, h.block⟩

theorem But.setCell {b : Nat} {w w' : World} (h : But b w w') (o : Nat) (v : Value) : But b w (w'.setCell ⟨b, o, none⟩ v) :=
  h.trans ⟨rfl, rfl, rfl, by simp, fun k _ hk => heap_setCell_other w' ⟨b, o, none⟩ k v hk⟩

theorem But.below {b B : Nat} {w w' : World} (h : But b w w') (hB : B ≤ b) (hw : B ≤ w.heap.size) : Below B w w' :=
  ⟨h.os, h.tape, h.output, h.size, fun k hk => h.block k (by omega) (by omega)⟩

/-- What a map's cells hold. -/
def mapF (st rm : Nat → Nat) : Nat → Value := fun i => if i < 1024 then .int .u8 (st i : Nat) else .int .i64 (rm (i - 1024) : Nat)

theorem mapF_low (st rm : Nat → Nat) {i : Nat} (h : i < 1024) : mapF st rm i = .int .u8 (st i : Nat) := if_pos h
theorem mapF_high (st rm : Nat → Nat) (k : Nat) : mapF st rm (1024 + k) = .int .i64 (rm k : Nat) := by
  unfold mapF; rw [if_neg (by omega), show 1024 + k - 1024 = k from by omega]

/-- Block b is a map in which each sector is what st says. -/
def MapAt (w : World) (b : Nat) (st : Nat → Nat) : Prop := RowAt w b 104 1040 (mapF st (roomN st))

theorem MapAt.of_but {b c : Nat} {w w' : World} {st : Nat → Nat} (h : MapAt w c st) (hb : But b w w') (hc : c ≠ b) : MapAt w' c st := by
  unfold MapAt RowAt
  rw [hb.block c (RowAt.lt h) hc]
  exact h

theorem MapAt.below {b : Nat} {w w' : World} {st : Nat → Nat} (h : MapAt w b st) (hb : Below w.heap.size w w') : MapAt w' b st := RowAt.below h hb

theorem MapAt.state {b : Nat} {w : World} {st : Nat → Nat} (h : MapAt w b st) {i : Nat} (hi : i < 1024) : w.cell? ⟨b, i, none⟩ = some (.int .u8 (st i : Nat)) := by
  have := RowAt.cell h (i := i) (by omega)
  rw [mapF_low _ _ hi] at this
  exact this

theorem MapAt.room {b : Nat} {w : World} {st : Nat → Nat} (h : MapAt w b st) {k : Nat} (hk : k < 16) : w.cell? ⟨b, 1024 + k, none⟩ = some (.int .i64 (roomN st k : Nat)) := by
  have := RowAt.cell h (i := 1024 + k) (by omega)
  rw [mapF_high] at this
  exact this

theorem mapF_put (st : Nat → Nat) {i v : Nat} (hi : i < 1024) {rm : Nat → Nat} (hr : ∀ k, k < 16 → rm k = roomN (putN st i v) k) :
    ∀ j, j < 1040 → (if j = i then (.int .u8 (v : Nat) : Value) else mapF st rm j) = mapF (putN st i v) (roomN (putN st i v)) j := by
  intro j hj
  by_cases hji : j = i
  · subst hji; rw [if_pos rfl, mapF_low _ _ hi, putN_same]
  · rw [if_neg hji]
    unfold mapF
    by_cases hl : j < 1024
    · rw [if_pos hl, if_pos hl, putN_other st v hji]
    · rw [if_neg hl, if_neg hl, hr _ (by omega)]

theorem mapF_room (st rm : Nat → Nat) (q r : Nat) : ∀ j, (if j = 1024 + q then (.int .i64 (r : Nat) : Value) else mapF st rm j) = mapF st (fun k => if k = q then r else rm k) j := by
  intro j
  unfold mapF
  by_cases h : j = 1024 + q
  · subst h
    rw [if_pos rfl, if_neg (by omega)]
    simp
  · rw [if_neg h]
    by_cases hl : j < 1024
    · rw [if_pos hl, if_pos hl]
    · rw [if_neg hl, if_neg hl]
      simp only
      rw [if_neg (by omega)]

set_option maxRecDepth 100000 in
set_option maxHeartbeats 4000000 in
theorem is_any (b : Nat) (st : Nat → Nat) (i : Int) (s : Nat) (w : World) (hm : MapAt w b st) (hi : inI64 i) :
    Calls Try.prog 79 #[.pointer (some ⟨b, 0, none⟩), .int .i64 i, .int .u8 (s : Nat)] w fun e w' => e = .returned (.bool (decide (0 ≤ i ∧ i < 1024 ∧ st i.toNat = s))) ∧ w = w' := by
  unfold inI64 at hi
  by_cases h0 : i < 0
  · have hd : decide (0 ≤ i ∧ i < 1024 ∧ st i.toNat = s) = false := decide_eq_false (by omega)
    rw [hd]
    have h0' : decide (0 ≤ i) = false := decide_eq_false (by omega)
    clear hd
    go_enter Try.func79, Try.ntmps79
    go_wp2
    go_ret
    exact ⟨rfl, rfl⟩
  by_cases h1 : ¬ i < 1024
  · have hd : decide (0 ≤ i ∧ i < 1024 ∧ st i.toNat = s) = false := decide_eq_false (by omega)
    rw [hd]
    have h0' : decide (0 ≤ i) = true := decide_eq_true (by omega)
    have h1' : decide (i < 1024) = false := decide_eq_false (by omega)
    clear hd
    go_enter Try.func79, Try.ntmps79
    go_wp2
    go_ret
    exact ⟨rfl, rfl⟩
  obtain ⟨k, rfl⟩ : ∃ k : Nat, i = (k : Int) := ⟨i.toNat, by omega⟩
  have hk : k < 1024 := by omega
  have hc := hm.state hk
  have hd : decide (0 ≤ (k : Int) ∧ (k : Int) < 1024 ∧ st (k : Int).toNat = s) = ((st k : Int) == (s : Int)) := by
    rw [Bool.eq_iff_iff, decide_eq_true_eq, beq_iff_eq, Int.toNat_natCast]
    omega
  rw [hd]
  obtain ⟨x, hx⟩ : ∃ x, st k = x := ⟨_, rfl⟩
  rw [hx] at hc ⊢
  obtain ⟨r, hr⟩ : ∃ r, ((x : Int) == (s : Int)) = r := ⟨_, rfl⟩
  rw [hr]
  clear hd hx
  have g0 : decide ((0 : Int) ≤ (k : Int)) = true := decide_eq_true (by omega)
  have g1 : decide ((k : Int) < 1024) = true := decide_eq_true (by omega)
  have g2 : (0 : Int) ≤ (k : Int) := by omega
  have g3 : (k : Int) < 1024 := by omega
  go_enter Try.func79, Try.ntmps79
  go_wp2
  go_ret
  exact ⟨rfl, rfl⟩

end Go.Proofs.Ytaeklmnleampcaa
