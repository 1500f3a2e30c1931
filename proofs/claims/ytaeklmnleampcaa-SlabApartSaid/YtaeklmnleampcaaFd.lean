/- Walk of the reference's Value at two bytes; plain laws of a log as bytes. -/
import Derived.Test.YtaeklmnleampcaaFc
namespace Go.Proofs.Ytaeklmnleampcaa
open Go.RowKit

set_option maxRecDepth 100000 in
set_option maxHeartbeats 1600000 in
theorem value_two (c o cap : Nat) (x y : Nat) (hx : x < 256) (hy : y < 256) (w : World) (h0 : w.cell? ⟨c, o, none⟩ = some (.int .u8 x)) (h1 : w.cell? ⟨c, o + 1, none⟩ = some (.int .u8 y)) :
    Calls Try.prog 89 #[.slice (some ⟨c, o, none⟩) 2 cap] w fun e w' => e = .returned (.int .u64 ((x : Int) + 256 * (y : Int))) ∧ Below w.heap.size w w' := by
  go_enter Try.func89, Try.ntmps89
  go_wp2_with fail
  refine wp_loop_rounds 3 ?_
  rw [rounds_succ]; go_wp2_with fail
  rw [rounds_succ]; go_wp2_with fail
  rw [rounds_succ]; go_wp2_with fail
  go_ret
  refine ⟨?_, Below.refl _ _⟩
  show Ending.returned (.int .u64 ((y : Int) * 256 + (x : Int))) = _
  rw [show (y : Int) * 256 + (x : Int) = (x : Int) + 256 * (y : Int) from by omega]

/-- The bytes of a move. -/
def encM (x : MoveT) : List Int := [if x.1 = true then 1 else 0, x.2.1 % 256, x.2.1 / 256, x.2.2 % 256, x.2.2 / 256]

def okM (x : MoveT) : Bool := singleB x.2.1 x.2.2

/-- The bytes of a log, if it has any. -/
def bytesS (ms : List MoveT) : Option (List Int) := if ms.length ≤ 4096 ∧ ms.all okM = true then some (ms.flatMap encM) else none

/-- The move that lies at five bytes. -/
def decM (bs : List Int) (k : Nat) : MoveT := (bs.getD (5 * k) 0 == 1, bs.getD (5 * k + 1) 0 + 256 * bs.getD (5 * k + 2) 0, bs.getD (5 * k + 3) 0 + 256 * bs.getD (5 * k + 4) 0)

def okB (bs : List Int) (k : Nat) : Bool := decide (bs.getD (5 * k) 0 ≤ 1) && okM (decM bs k)

/-- The log that some bytes are, if they are one. -/
def readS (bs : List Int) : Option (List MoveT) :=
  if bs.length % 5 = 0 ∧ bs.length ≤ 20480 ∧ (List.range (bs.length / 5)).all (okB bs) = true then some ((List.range (bs.length / 5)).map (decM bs)) else none

theorem encM_length (x : MoveT) : (encM x).length = 5 := rfl

theorem enc_length (ms : List MoveT) : (ms.flatMap encM).length = 5 * ms.length := by
  induction ms with
  | nil => rfl
  | cons x r ih => rw [List.flatMap_cons, List.length_append, ih, encM_length, List.length_cons]; omega

theorem enc_at (ms : List MoveT) {k : Nat} (h : k < ms.length) (j : Nat) (hj : j < 5) : (ms.flatMap encM).getD (5 * k + j) 0 = (encM ms[k]).getD j 0 := by
  induction ms generalizing k with
  | nil => simp at h
  | cons x r ih =>
    rw [List.flatMap_cons]
    cases k with
    | zero =>
      rw [Nat.mul_zero, Nat.zero_add, List.getD_eq_getElem?_getD, List.getElem?_append_left (by rw [encM_length]; exact hj), ← List.getD_eq_getElem?_getD]
      rfl
    | succ k =>
      rw [List.getD_eq_getElem?_getD, List.getElem?_append_right (by rw [encM_length]; omega), ← List.getD_eq_getElem?_getD, encM_length, show 5 * (k + 1) + j - 5 = 5 * k + j from by omega]
      exact ih (by simpa using h)

theorem dec_enc (ms : List MoveT) {k : Nat} (h : k < ms.length) (hok : okM ms[k] = true) : decM (ms.flatMap encM) k = ms[k] ∧ okB (ms.flatMap encM) k = true := by
  have g := (singleB_iff _ _).1 hok
  have h0 := enc_at ms h 0 (by omega)
  rw [Nat.add_zero] at h0
  have hd : decM (ms.flatMap encM) k = ms[k] := by
    unfold decM
    rw [h0, enc_at ms h 1 (by omega), enc_at ms h 2 (by omega), enc_at ms h 3 (by omega), enc_at ms h 4 (by omega)]
    generalize ms[k] = x at g
    obtain ⟨t, s, n⟩ := x
    simp only [encM, List.getD_cons_zero, List.getD_cons_succ] at g ⊢
    refine Prod.ext ?_ (Prod.ext ?_ ?_)
    · cases t <;> rfl
    · show s % 256 + 256 * (s / 256) = s
      omega
    · show n % 256 + 256 * (n / 256) = n
      omega
  refine ⟨hd, ?_⟩
  unfold okB
  rw [hd, hok, h0]
  generalize ms[k] = x
  obtain ⟨t, s, n⟩ := x
  cases t <;> rfl

/-- Moves that have bytes are read back from them. -/
theorem readS_bytes {ms : List MoveT} {bs : List Int} (h : bytesS ms = some bs) : readS bs = some ms ∧ bs.length = 5 * ms.length := by
  unfold bytesS at h
  split at h
  · next hc =>
    cases h
    have hok : ∀ k (hk : k < ms.length), okM ms[k] = true := fun k hk => List.all_eq_true.1 hc.2 _ (List.getElem_mem hk)
    refine ⟨?_, enc_length ms⟩
    unfold readS
    rw [enc_length, show 5 * ms.length / 5 = ms.length from by omega, if_pos]
    · congr 1
      refine List.ext_getElem (by simp) fun k h1 h2 => ?_
      rw [List.getElem_map, List.getElem_range]
      exact (dec_enc ms h2 (hok k h2)).1
    · refine ⟨by omega, by omega, ?_⟩
      rw [List.all_eq_true]
      intro k hk
      have hk' := List.mem_range.1 hk
      exact (dec_enc ms hk' (hok k hk')).2
  · cases h

end Go.Proofs.Ytaeklmnleampcaa
