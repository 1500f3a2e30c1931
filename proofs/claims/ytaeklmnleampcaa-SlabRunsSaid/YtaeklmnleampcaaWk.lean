/- spanAlive: the chapter's example, walked. -/
import Derived.Test.YtaeklmnleampcaaWi
import Derived.Test.YtaeklmnleampcaaWj
import Derived.Test.YtaeklmnleampcaaWb
namespace Go.Proofs.Ytaeklmnleampcaa
open Go.RowKit

theorem intSl_lit (w : World) (l : List Int) (cs : Array Value) (t : TypeId) (hcs : cs.toList = l.map (Value.int .i64)) (hw : ∀ x ∈ l, (Lit.int .i64 x).wf = true) (hl : l.length ≤ 9223372036854775807) (n cap : Nat) (hn : n = l.length) :
    IntSl .i64 (w.alloc (.cells cs t)) (.slice (some ⟨w.heap.size, 0, none⟩) n cap) l := by
  subst hn
  refine ⟨_, cap, rfl, hl, hw, fun _ => ⟨w.heap.size, 0, rfl, by simp, fun j hj => ?_⟩⟩
  rw [Nat.zero_add, World.cell?_alloc_at _ _ _ _ rfl, ← Array.getElem?_toList, hcs]
  simp [hj]

theorem spanSl_lit (w : World) (l : List (Int × Int)) (cs : Array Value) (t : TypeId) (hcs : cs.toList = spanCells l) (hw : ∀ x ∈ l, inI64 x.1 ∧ inI64 x.2) (hl : l.length ≤ 9223372036854775807) (n cap : Nat) (hn : n = l.length) :
    SpanSl (w.alloc (.cells cs t)) (.slice (some ⟨w.heap.size, 0, none⟩) n cap) l := by
  subst hn
  refine ⟨_, cap, rfl, hl, hw, fun _ => ⟨w.heap.size, 0, rfl, by simp, fun j hj => ?_⟩⟩
  obtain ⟨h1, h2⟩ := spanCells_get l j hj
  rw [Nat.zero_add, World.cell?_alloc_at _ _ _ _ rfl, World.cell?_alloc_at _ _ _ _ rfl, ← Array.getElem?_toList, ← Array.getElem?_toList, hcs]
  exact ⟨h1, h2⟩

theorem eq51 (a b c d : Int) (r : Bool) (h : ((a == c) && (b == d)) = r) (w : World) :
    (binOp .eql 51 (.agg #[.int .i64 a, .int .i64 b]) (.agg #[.int .i64 c, .int .i64 d])).run Try.prog w = .ok (.bool r) w := by
  subst h
  have hs : (Op.equal 51 (.agg #[.int .i64 a, .int .i64 b]) (.agg #[.int .i64 c, .int .i64 d])).run Try.prog w = .ok ((a == c) && (b == d)) w := by
    unfold Op.equal Op.maxDepth
    rw [run_equalIn_struct (P := Try.prog) w 9999 51 _ _ (by kernel_rfl) (by kernel_rfl)]
    have hf : (Try.prog.fieldsOf 51).toList = [{ name := "Start", type := 3, offset := 0, embedded := false, tag := "", pkgPath := "", byteOffset := 0 }, { name := "Len", type := 3, offset := 1, embedded := false, tag := "", pkgPath := "", byteOffset := 8 }] := by kernel_rfl
    rw [hf]
    simp [Op.eqFields, part, Try.isAgg3, Result.andThen, run_equalIn_int w 9998 3 .i64 .i64 _ _ Try.underlying3]
    by_cases h1 : a = c <;> by_cases h2 : b = d <;> simp [h1, h2]
  simp [binOp, hs, Result.andThen]

theorem example_spans : spansOf (numsF [5, 3, 4, 9]) = [(3, 3), (9, 1)] := by
  rw [← spansOf_bitsOf (l := [(3, 3), (9, 1)]) (by decide)]
  refine spansOf_congr (fun n _ => ?_)
  rw [Bool.eq_iff_iff]
  simp [numsF, bitsOf, memB]
  omega

theorem example_first : firstR 2 [(3, 3), (9, 1)] = ((3, 2), true) := by decide

set_option maxRecDepth 100000 in
set_option maxHeartbeats 2000000 in
theorem spanAlive_any (w : World) : Calls Try.prog 24 #[] w fun e w' => e = .returned (.bool true) ∧ Below w.heap.size w w' := by
  obtain ⟨W0, hW0⟩ : ∃ W0, W0 = w.alloc (.cells #[.int .i64 5, .int .i64 3, .int .i64 4, .int .i64 9] 3) := ⟨_, rfl⟩
  have hi : IntSl .i64 W0 (.slice (some ⟨w.heap.size, 0, none⟩) 4 4) [5, 3, 4, 9] := by
    rw [hW0]; exact intSl_lit w [5, 3, 4, 9] _ _ rfl (by decide) (by decide) _ _ rfl
  have hB0 : Below w.heap.size w W0 := by rw [hW0]; exact (Below.refl _ _).alloc (Nat.le_refl _) _
  have hs0 := hB0.size
  go_enter Try.func24, Try.ntmps24
  go_wp2_with fail
  rw [← hW0]
  refine (of_any _ _ _ hi).mono ?_
  rintro e w1 ⟨v1, rfl, hs1, hb1⟩
  rw [example_spans] at hs1
  have hB1 := Below.step hB0 hs0 hb1
  clear hW0
  go_wp2_with fail
  refine (first_any _ _ _ _ hs1).mono ?_
  rintro e w2 ⟨rfl, hb2⟩
  rw [example_first]
  simp only [spanV]
  have hs2 := hs1.below hb2
  have hB2 := Below.step hB1 hB1.size hb2
  have hz2 := hB2.size
  have hq := eq51 3 2 3 2 true (by decide)
  go_wp2_with fail
  obtain ⟨Wa, hWa⟩ : ∃ W, W = w2.alloc (.cells #[.int .i64 3, .int .i64 2] 51) := ⟨_, rfl⟩
  have hsa : Wa.heap.size = w2.heap.size + 1 := by rw [hWa]; simp
  have hBa : Below w2.heap.size w2 Wa := by rw [hWa]; exact (Below.refl _ _).alloc (Nat.le_refl _) _
  have hc0 : Wa.cell? ⟨w2.heap.size, 0, none⟩ = some (.int .i64 3) := by rw [hWa]; exact World.cell?_alloc_at _ _ _ _ rfl
  have hc1 : Wa.cell? ⟨w2.heap.size, 1, none⟩ = some (.int .i64 2) := by rw [hWa]; exact World.cell?_alloc_at _ _ _ _ rfl
  rw [← hWa]
  obtain ⟨Wb, hWb⟩ : ∃ W, W = Wa.alloc (.cells #[.int .i64 3, .int .i64 3, .int .i64 9, .int .i64 1] 51) := ⟨_, rfl⟩
  have hl : SpanSl Wb (.slice (some ⟨w2.heap.size + 1, 0, none⟩) 2 2) [(3, 3), (9, 1)] := by
    rw [hWb, ← hsa]; exact spanSl_lit Wa [(3, 3), (9, 1)] _ _ rfl (by simp [inI64]) (by decide) _ _ rfl
  have hBb : Below Wa.heap.size Wa Wb := by rw [hWb]; exact (Below.refl _ _).alloc (Nat.le_refl _) _
  rw [← hWb]
  refine (same_is true _ _ _ _ (by decide) _ ((hs2.below hBa).below hBb) hl).mono ?_
  rintro e w3 ⟨rfl, hb3⟩
  have hb4 : Below Wa.heap.size Wa w3 := Below.step hBb hBb.size hb3
  have hd0 := (hb4.cell (p := ⟨w2.heap.size, 0, none⟩) (by show w2.heap.size < Wa.heap.size; omega)).trans hc0
  have hd1 := (hb4.cell (p := ⟨w2.heap.size, 1, none⟩) (by show w2.heap.size < Wa.heap.size; omega)).trans hc1
  have hB3 := Below.step (Below.step hB2 hz2 hBa) (by omega) hb4
  clear hWa hWb hc0 hc1
  go_wp2
  go_ret
  exact ⟨rfl, hB3⟩

end Go.Proofs.Ytaeklmnleampcaa
