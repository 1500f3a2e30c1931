/- What the law SlabApart needs: rows of truth values beside a map; a list that is one's own, opened. -/
import Derived.Test.YtaeklmnleampcaaSl
import Derived.Test.YtaeklmnleampcaaWn
import Derived.Deep.MidRow
import Derived.Deep.RegionLaw
namespace Go.Proofs.Ytaeklmnleampcaa
open Go.RowKit

/-- Which sectors are s. -/
def kindF (st : Nat → Nat) (s : Nat) : Nat → Bool := fun n => decide (n < 1024 ∧ st n = s)

theorem kindF_at {st : Nat → Nat} {s n : Nat} (h : n < 1024) : kindF st s n = decide (st n = s) := by
  unfold kindF
  rw [Bool.eq_iff_iff, decide_eq_true_eq, decide_eq_true_eq]
  exact ⟨fun h2 => h2.2, fun h2 => ⟨h, h2⟩⟩

theorem kindF_congr {st st' : Nat → Nat} {s : Nat} (h : ∀ j, j < 1024 → (st j = s ↔ st' j = s)) (n : Nat) : kindF st s n = kindF st' s n := by
  unfold kindF
  rw [Bool.eq_iff_iff, decide_eq_true_eq, decide_eq_true_eq]
  exact ⟨fun h2 => ⟨h2.1, (h n h2.1).1 h2.2⟩, fun h2 => ⟨h2.1, (h n h2.1).2 h2.2⟩⟩

theorem kindF_put {st : Nat → Nat} {s i v : Nat} (hi : i < 1024) (n : Nat) : kindF (putN st i v) s n = if n = i then decide (v = s) else kindF st s n := by
  by_cases h : n = i
  · subst h; rw [if_pos rfl, kindF_at hi, putN_same]
  · rw [if_neg h]; unfold kindF; rw [putN_other st v h]

theorem row_but {w w' : World} {b g : Nat} {t : TypeId} {n : Nat} {f : Nat → Value} (h : RowAt w g t n f) (hb : But b w w') (hg : g ≠ b) : RowAt w' g t n f := by
  unfold RowAt
  rw [hb.block g h.lt hg]
  exact h

theorem map_set {w : World} {b : Nat} {st : Nat → Nat} (h : MapAt w b st) (g i : Nat) (hg : b ≠ g) (v : Value) : MapAt (w.setCell ⟨g, i, none⟩ v) b st := RowAt.set_other h ⟨g, i, none⟩ hg v

/-- A list of one's own, opened: where its cells lie. -/
theorem owns_open {w : World} {base : Nat} {v : Value} {l : List Nat} (h : w.ownsRow base 3 1 v l.length (natsV l)) :
    ∃ (va : Option Addr) (vg c : Nat), v = .slice va l.length c ∧ (0 < l.length → va = some ⟨vg, 0, none⟩ ∧ base ≤ vg ∧ vg < w.heap.size) ∧ ∀ j x, l[j]? = some x → w.cell? ⟨vg, j, none⟩ = some (.int .i64 (x : Nat)) := by
  rcases h.2 with ⟨rfl, h0⟩ | ⟨g, cap, cur, rfl, hb, hg, hn, hc, hs, ht⟩
  · have : l = [] := List.eq_nil_of_length_eq_zero h0
    subst this
    exact ⟨none, 0, 0, rfl, fun h => absurd h (by simp), fun j x hx => by simp at hx⟩
  · refine ⟨_, g, cap, rfl, fun _ => ⟨rfl, hb, (Array.getElem?_eq_some_iff.1 hg).1⟩, fun j x hx => ?_⟩
    have hj : j < l.length := (List.getElem?_eq_some_iff.1 hx).1
    have := h.cellAt j (by omega)
    rw [this]
    unfold natsV
    rw [List.getElem?_map, hx]
    rfl

theorem row_range {w : World} {g : Nat} {f : Nat → Value} (h : RowAt w g 60 4096 f) : w.rangeAt g 0 (arrOf 4096 f).toList := by
  intro j v hv
  rw [Array.getElem?_toList, arrOf_get] at hv
  split at hv
  · next hj => cases hv; rw [Nat.zero_add]; exact h.cell hj
  · cases hv

theorem range_below {w w' : World} {g o : Nat} {cs : List Value} (hb : Below w.heap.size w w') (h : w.rangeAt g o cs) : w'.rangeAt g o cs := by
  intro j v hv
  have := h j v hv
  exact (hb.cell (p := ⟨g, o + j, none⟩) (block_lt_of_cell this)).trans this

theorem refset_of (L : List Value) (f : Nat → Bool) (h : L.toArray = arrOf 4096 (boolsF f)) (w : World) :
    Calls Try.prog 59 #[.agg L.toArray] w fun e w' => ∃ r, e = .returned r ∧ OwnSp w' w.heap.size r (spansOf f) ∧ Below w.heap.size w w' := by
  rw [h]
  exact refset_own f w

/-- A whole array read out of a variable, as a step of a region that draws its order. -/
theorem step_load_row {ops : Array Oper} {o : Oper} {a : Act} {w : World} {K : Act → World → Prop} {Q : Exit → Act → World → Prop} {E : Prop} (hg : o.guard = none) (x : Operand) (ho : o.op = .load 60 x)
    (g : Nat) (hx : a.eval x = .pointer (some ⟨g, 0, none⟩)) (L : List Value) (hc : w.rangeAt g 0 L) (hl : L.length = 4096) (h : K (a.put o.dst (.agg L.toArray)) w) :
    if Region.wanted o (yielded ops a.tmps) = true then Oper.wp Try.prog o a w K Q else E := by
  have hw : Region.wanted o (yielded ops a.tmps) = true := by simp [Region.wanted, hg]
  rw [if_pos hw]
  exact wp_load_mid 60 x ho g 0 hx L _ hc Try.underlying60 rfl (by rw [hl]; exact size60) h

theorem range_drew {w : World} {g o : Nat} {cs : List Value} (h : w.rangeAt g o cs) : w.drew.rangeAt g o cs := h

theorem load_row60 {w : World} {g : Nat} {L : List Value} (h : w.rangeAt g 0 L) (hl : L.length = 4096) : (Instr.loadAt 60 (.pointer (some ⟨g, 0, none⟩))).run Try.prog w = .ok (.agg L.toArray) w :=
  run_loadAt_mid w g 0 60 L _ h Try.underlying60 rfl (by rw [hl]; exact size60)

theorem kindF_set (st : Nat → Nat) (s : Nat) : spansOf (kindF st s) = setN st s := rfl

end Go.Proofs.Ytaeklmnleampcaa
