/- Laws for arrays as whole values: loaded from and stored into a row of cells told by a function. -/
import Derived.Test.YtaeklmnleampcaaMem
import Derived.WalkSpells
import Derived.WalkLawsBesides
import Derived.BigQuiet
import Derived.Deep.QuietTactic
namespace Go.Proofs.Ytaeklmnleampcaa
open Go.RowKit

theorem RowAt.setRow {w : World} {g : Nat} {t : TypeId} {n : Nat} {f : Nat → Value} (h : RowAt w g t n f) (f' : Nat → Value) : RowAt (w.setRow g (arrOf n f')) g t n f' :=
  setRow_heap w g _ _ t _ h

theorem RowAt.setRow_other {w : World} {g b : Nat} {t : TypeId} {n : Nat} {f : Nat → Value} (h : RowAt w b t n f) (hb : b ≠ g) (cs : Array Value) : RowAt (w.setRow g cs) b t n f := by
  unfold RowAt
  rw [Go.setRow_other w g b cs hb]
  exact h

theorem Below.setRow {B : Nat} {a w : World} (h : Below B a w) {g : Nat} (hg : B ≤ g) (cs : Array Value) : Below B a (w.setRow g cs) :=
  h.trans ⟨rfl, rfl, rfl, by simp, fun k hk => Go.setRow_other w g k cs (by omega)⟩

theorem setRow_size (w : World) (g : Nat) (cs : Array Value) : (w.setRow g cs).heap.size = w.heap.size := by simp

theorem run_storeVar_row {P : Program} (w : World) (ty : TypeId) (g : Nat) (t : TypeId) (n : Nat) (f f' : Nat → Value) (h : RowAt w g t n f) (hi : (P.info? ty).map (·.size) = some n) (h1 : ∀ i, (f' i).oneCell' = true) :
    (storeVar ty ⟨g, 0, none⟩ (.agg (arrOf n f'))).run P w = .ok () (w.setRow g (arrOf n f')) := by
  cases hq : P.info? ty with
  | none => simp [hq] at hi
  | some i =>
    have hs : i.size = n := by simpa [hq] using hi
    have hst := run_storeCells_at P g 0 t (arrOf n f').toList 0 (arrOf n f) w h (by simp [arrOf_size]) (by
      intro v hv
      rw [Array.mem_toList_iff, Array.mem_iff_getElem?] at hv
      obtain ⟨j, hj⟩ := hv
      rw [arrOf_get] at hj
      split at hj
      · cases hj; exact h1 j
      · cases hj)
    have hz : ((arrOf n f).toList.take (0 + 0) ++ (arrOf n f').toList ++ (arrOf n f).toList.drop (0 + 0 + (arrOf n f').toList.length)).toArray = arrOf n f' := by
      rw [List.drop_of_length_le (by simp [arrOf_size])]
      simp
    rw [hz] at hst
    unfold storeVar
    simp only [Value.cells, arrOf_size, Sem.run_bind, sizeOf, typeInfo, run_program, Result.andThen_ok, hq, Sem.run_pure, hs, ne_eq, not_true_eq_false, if_false]
    exact hst

theorem wpList_store_row {P : Program} {ops : Array Oper} {rest : List Oper} {o : Oper} {a : Act} {w : World} {Q : Exit → Act → World → Prop} (hgd : o.guard = none) (ty : TypeId) (x y : Operand) (ho : o.op = .store ty x y)
    (g : Nat) (hx : a.eval x = .pointer (some ⟨g, 0, none⟩)) (n : Nat) (f' : Nat → Value) (cs : Array Value) (hy : a.eval y = .agg cs) (hcs : cs = arrOf n f') (t : TypeId) (f : Nat → Value) (h : RowAt w g t n f) (hi : (P.info? ty).map (·.size) = some n) (h1 : ∀ i, (f' i).oneCell' = true)
    (hk : wpList P ops Q rest (a.put o.dst undef) (w.setRow g (arrOf n f'))) : wpList P ops Q (o :: rest) a w :=
  wpList_plain hgd fun K hK => by
    subst hcs
    unfold Oper.wp execOp
    simp only [ho, hx, hy, Instr.storeAt, Instr.sureAddr, Sem.run_bind, Sem.run_pure, Result.andThen_ok, run_storeVar_row w ty g t n f f' h hi h1]
    exact hK _ _ hk

theorem wpList_load_arr {P : Program} {ops : Array Oper} {rest : List Oper} {o : Oper} {a : Act} {w : World} {Q : Exit → Act → World → Prop} (hgd : o.guard = none) (ty : TypeId) (x : Operand) (ho : o.op = .load ty x)
    (g : Nat) (hx : a.eval x = .pointer (some ⟨g, 0, none⟩)) (n : Nat) (t : TypeId) (f : Nat → Value) (h : RowAt w g t n f) (d : TypeDesc) (hu : P.underlying ty = some d) (hd : (match d with | .struct _ | .array _ _ => true | _ => false) = true) (hi : (P.info? ty).map (·.size) = some n)
    (hk : wpList P ops Q rest (a.put o.dst (.agg (arrOf n f))) w) : wpList P ops Q (o :: rest) a w :=
  wpList_load_row hgd ty x ho g hx t (arrOf n f) (0, 0) d h hu hd (by rw [arrOf_size]; exact hi) hk

theorem boolsF_one (f : Nat → Bool) : ∀ i, (boolsF f i).oneCell' = true := fun _ => rfl

theorem build60 (w : World) : (Instr.build 60 #[]).run Try.prog w = .ok (.agg (arrOf 4096 (boolsF fun _ => false))) w := by
  rw [← zero60]
  simp [Instr.build, Sem.run_bind, Try.zeroValue60, Try.runUnderlying60, Try.sizeOf4, Instr.fill, Result.andThen, Value.cells]

theorem size60 : (Try.prog.info? 60).map (·.size) = some 4096 := by kernel_rfl
theorem size97 : (Try.prog.info? 97).map (·.size) = some 4096 := by kernel_rfl

theorem retAgg {f g : Nat → Value} {n : Nat} (h : ∀ i, i < n → f i = g i) : Ending.returned (.agg (arrOf n f)) = .returned (.agg (arrOf n g)) := by rw [arrOf_congr h]

theorem ret_arr {P : Program} {fn : Func} {p : Tmp} {ty : TypeId} {tmps : Array Value} {w : World} {g : Nat} {t : TypeId} {n : Nat} {f : Nat → Value} {d : TypeDesc} (h : fn.results = #[.cell p ty]) (hp : tmps.getD p undef = .pointer (some ⟨g, 0, none⟩))
    (hg : RowAt w g t n f) (hu : P.underlying ty = some d) (hd : (match d with | .struct _ | .array _ _ => true | _ => false) = true) (hi : (P.info? ty).map (·.size) = some n) :
    (results fn tmps).run P w = .ok (.agg (arrOf n f)) w :=
  results_cell_row h tmps w g t (arrOf n f) (0, 0) d hp hg hu hd (by rw [arrOf_size]; exact hi)

end Go.Proofs.Ytaeklmnleampcaa
