/- Walks of the reference's comparison of two lists of moves. -/
import Derived.Test.YtaeklmnleampcaaMv
namespace Go.Proofs.Ytaeklmnleampcaa
open Go.RowKit

set_option maxHeartbeats 1600000 in
/-- The reference's Same of moves: are two lists of moves one? -/
theorem msame_any (v u : Value) (l m : List MoveT) (w : World) (hv : MoveSl w v l) (hu : MoveSl w u m) :
    Calls Try.prog 32 #[v, u] w fun e w' => e = .returned (.bool (decide (l = m))) ∧ Below w.heap.size w w' := by
  obtain ⟨ao, cap, rfl, hlen, _, hc⟩ := hv
  obtain ⟨bo, cap', rfl, hlen', _, hc'⟩ := hu
  have HC := Lib.hid hc; clear hc
  have HC' := Lib.hid hc'; clear hc'
  by_cases hll : l.length = m.length
  · have HL := Lib.hid hll
    have hn : ((l.length : Int) != (m.length : Int)) = false := by simp [hll]
    clear hll
    go_enter Try.func32, Try.ntmps32
    go_wp2_with (fail)
    go_loopw [13] (fun i wr => ∃ (k : Nat), k ≤ l.length ∧ i = .int .i64 k ∧ Hid (∀ j (hj : j < k) (hl : j < l.length) (hm : j < m.length), l[j] = m[j]) ∧ Below w.heap.size w wr)
      (fun i _ => l.length - (intOf i).toNat)
    case atStart => exact ⟨0, Nat.zero_le _, rfl, fun j hj => absurd hj (Nat.not_lt_zero _), Below.refl _ _⟩
    case round =>
      obtain ⟨k, hk, rfl, HR, hbel⟩ := hrel
      by_cases hlt : k < l.length
      · have hlt' : k < m.length := by have := HL.out; omega
        obtain ⟨b, o, rfl, hbs, hcell⟩ := HC.out (by intro h; simp [h] at hlt)
        obtain ⟨b', o', rfl, hbs', hcell'⟩ := HC'.out (by intro h; simp [h] at hlt')
        obtain ⟨h1, h2, h3⟩ := move_cells hbs hcell hbel hlt
        obtain ⟨h4, h5, h6⟩ := move_cells hbs' hcell' hbel hlt'
        clear hcell hcell'
        have hi1 : (k : Int) < (l.length : Int) := by omega
        have hi2 : (k : Int) < (m.length : Int) := by omega
        by_cases he : l[k] = m[k]
        · have HE := Lib.hid he
          have hq := neq99 l[k].1 m[k].1 l[k].2.1 l[k].2.2 m[k].2.1 m[k].2.2 false (by rw [he]; simp)
          clear he
          go_wp2_with (go_quiet (fail))
          go_roundw
          case rel =>
            refine ⟨k + 1, by omega, by go_num, fun j hj hl hm => ?_, by refine below_drewN ?_ _; go_grown⟩
            by_cases hjk : j = k
            · subst hjk; exact HE.out
            · exact HR.out j (by omega) hl hm
          case measure => simp [intOf]; omega
        · have HE := Lib.hid he
          have hq := neq99 l[k].1 m[k].1 l[k].2.1 l[k].2.2 m[k].2.1 m[k].2.2 true (by
            have : ¬ (l[k].1 = m[k].1 ∧ l[k].2.1 = m[k].2.1 ∧ l[k].2.2 = m[k].2.2) := fun h => he (Prod.ext h.1 (Prod.ext h.2.1 h.2.2))
            rw [Bool.not_eq_true', ← Bool.not_eq_true, Bool.and_eq_true, Bool.and_eq_true, beq_iff_eq, beq_iff_eq, beq_iff_eq]
            exact this)
          clear he
          go_wp2_with (go_quiet (fail))
          go_ret
          exact ⟨ret_bool (by rw [decide_eq_false (not_take_eq hlt hlt' HE.out)]), by refine below_drewN ?_ _; go_grown⟩
      · go_wp2
        go_ret
        exact ⟨ret_bool (by rw [decide_eq_true (eq_of_all HL.out (fun j hl hm => HR.out j (by omega) hl hm))]), hbel⟩
  · have HL := Lib.hid hll
    have hn : ((l.length : Int) != (m.length : Int)) = true := by rw [bne_iff_ne]; omega
    clear hll
    go_enter Try.func32, Try.ntmps32
    go_wp2
    go_ret
    exact ⟨ret_bool (by rw [decide_eq_false (fun h => HL.out (by rw [h]))]), Below.refl _ _⟩

theorem msame_is (r : Bool) (v u : Value) (l m : List MoveT) (h : decide (l = m) = r) (w : World) (hv : MoveSl w v l) (hu : MoveSl w u m) :
    Calls Try.prog 32 #[v, u] w fun e w' => e = .returned (.bool r) ∧ Below w.heap.size w w' := by
  subst h; exact msame_any v u l m w hv hu

end Go.Proofs.Ytaeklmnleampcaa
