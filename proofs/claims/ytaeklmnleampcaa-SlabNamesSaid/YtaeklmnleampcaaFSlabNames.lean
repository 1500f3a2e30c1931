/- The frame of the statement SlabNames: what its walk owes, and that this is enough. -/
import Derived.Test.YtaeklmnleampcaaClosed
namespace Go.Proofs.Ytaeklmnleampcaa
open Go.RowKit Go.ChangeShapes Go.WideShapes Go.ChangeAt
set_option linter.unusedVariables false

/-- What the walk of SlabNames owes. -/
def SlabNamesWalk : Prop := ∀ (w : World), Calls Try.prog 10 #[] w fun e w' => e = .returned (.bool true) ∧ Below w.heap.size w w'

set_option maxRecDepth 100000 in
theorem slabNames_lifted (walk : SlabNamesWalk) (os : Os) (started : os.Started) (H : Type) (enc : TypeId × Value → H) :
    ReturnsInHanded {} Try.checked os 10 .any (Rows.slabNamesSpec.pre6 enc Try.prog Try.f10 Rows.slabNamesRow.domain false) (Rows.slabNamesSpec.post enc Try.prog Try.f10 false true false false) := by
  refine returnsInHanded_of_change_sized (C := Try.checked) own started (by as_aux_lemma => kernel_rfl) Try.func10
    (ChangeSpec.witness6 (enc := enc) (C := Try.checked) false ⟨#[], #[], []⟩ 8 (by as_aux_lemma => kernel_rfl) (by as_aux_lemma => kernel_rfl) (by as_aux_lemma => kernel_rfl) (by as_aux_lemma => kernel_rfl)) ?_
  intro W base args ds gs before hval0 hW hcnd hsz0 _
  have hsz : (DataW.weightsEach Try.prog (Try.f10.params.toList ++ Rows.slabNamesSpec.plain.varTypes Try.prog) (ds ++ gs)).all (· ≤ reachBytes) = true := hsz0
  clear hsz0
  have hval : ∀ (j : Nat) t v, Try.f10.params[j]? = some t → args[j]? = some v → Value.okWide Try.prog W .any base t v := hval0
  have hW' := hW
  obtain ⟨p, q, hA0, hV, rfl, hfz, hnd⟩ := hW
  have hA : DataW.TrodAll enc Try.prog W 0 (fun _ => true) true Try.f10.params.toList args.toList ds p := hA0
  rw [Try.params10] at hA hval hsz
  obtain ⟨hargs, rfl, rfl⟩ := trodAll_none hA
  obtain rfl : args = #[] := by cases args; simp_all
  obtain ⟨rfl, rfl⟩ := trodVars_none hV
  clear hA0 hval0
  refine (walk W  ).mono fun e W' ⟨he, bel⟩ => ?_
  subst he
  exact ⟨_, rfl, _, _, _, [], _, [], hW', trodAll_mk1 (shut_bool Try.underlying4 _), trodAll_mk0, rfl, bel.frame _, fun h => by cases h⟩

theorem slabNames_c0 : (fun (P : Program) (f : FuncId) (fn : Func) (s : ChangeSpec) (c : OpenClaim) => (c.wf (OpenSpec.ofChange s) : Bool)) Try.prog 10 Try.f10 Rows.slabNamesSpec Rows.slabNamesRow = true := by kernel_rfl
theorem slabNames_c3 : (fun (P : Program) (f : FuncId) (fn : Func) (s : ChangeSpec) (c : OpenClaim) => (fn.params.all (P.readableRec ·) : Bool)) Try.prog 10 Try.f10 Rows.slabNamesSpec Rows.slabNamesRow = true := by kernel_rfl
theorem slabNames_c4 : (fun (P : Program) (f : FuncId) (fn : Func) (s : ChangeSpec) (c : OpenClaim) => (namedTie P c.named s.vars : Bool)) Try.prog 10 Try.f10 Rows.slabNamesSpec Rows.slabNamesRow = true := by kernel_rfl
theorem slabNames_c5 : (fun (P : Program) (f : FuncId) (fn : Func) (s : ChangeSpec) (c : OpenClaim) => ((c.stops == []) : Bool)) Try.prog 10 Try.f10 Rows.slabNamesSpec Rows.slabNamesRow = true := by kernel_rfl
theorem slabNames_c7 : (fun (P : Program) (f : FuncId) (fn : Func) (s : ChangeSpec) (c : OpenClaim) => ((c.knobs == []) : Bool)) Try.prog 10 Try.f10 Rows.slabNamesSpec Rows.slabNamesRow = true := by kernel_rfl
theorem slabNames_c9 : (fun (P : Program) (f : FuncId) (fn : Func) (s : ChangeSpec) (c : OpenClaim) => ((c.inPlace == P.inPlace f) : Bool)) Try.prog 10 Try.f10 Rows.slabNamesSpec Rows.slabNamesRow = true := by kernel_rfl
theorem slabNames_c10 : (fun (P : Program) (f : FuncId) (fn : Func) (s : ChangeSpec) (c : OpenClaim) => ((c.unfollowed == P.unfollowed f) : Bool)) Try.prog 10 Try.f10 Rows.slabNamesSpec Rows.slabNamesRow = true := by kernel_rfl
theorem slabNames_c11 : (fun (P : Program) (f : FuncId) (fn : Func) (s : ChangeSpec) (c : OpenClaim) => ((c.recurses == P.recurses f) : Bool)) Try.prog 10 Try.f10 Rows.slabNamesSpec Rows.slabNamesRow = true := by kernel_rfl
theorem slabNames_c12 : (fun (P : Program) (f : FuncId) (fn : Func) (s : ChangeSpec) (c : OpenClaim) => ((c.named == P.varsNamed f) : Bool)) Try.prog 10 Try.f10 Rows.slabNamesSpec Rows.slabNamesRow = true := by kernel_rfl
theorem slabNames_c13 : (fun (P : Program) (f : FuncId) (fn : Func) (s : ChangeSpec) (c : OpenClaim) => ((c.maps == (fn.params.toList ++ s.plain.varTypes P).any (P.mapsRec ·)) : Bool)) Try.prog 10 Try.f10 Rows.slabNamesSpec Rows.slabNamesRow = true := by kernel_rfl
theorem slabNames_c14 : (fun (P : Program) (f : FuncId) (fn : Func) (s : ChangeSpec) (c : OpenClaim) => ((c.ifaces == (fn.params.toList ++ s.plain.varTypes P).any (P.ifacesRec ·)) : Bool)) Try.prog 10 Try.f10 Rows.slabNamesSpec Rows.slabNamesRow = true := by kernel_rfl
theorem slabNames_c15 : (fun (P : Program) (f : FuncId) (fn : Func) (s : ChangeSpec) (c : OpenClaim) => ((c.mapsOut == P.mapsAmong fn.resultTypes.toList) : Bool)) Try.prog 10 Try.f10 Rows.slabNamesSpec Rows.slabNamesRow = true := by kernel_rfl
theorem slabNames_c16 : (fun (P : Program) (f : FuncId) (fn : Func) (s : ChangeSpec) (c : OpenClaim) => ((c.loops == (fn.params.toList ++ s.plain.varTypes P).any (P.loopsFrom ·)) : Bool)) Try.prog 10 Try.f10 Rows.slabNamesSpec Rows.slabNamesRow = true := by kernel_rfl
theorem slabNames_c17 : (fun (P : Program) (f : FuncId) (fn : Func) (s : ChangeSpec) (c : OpenClaim) => ((c.wideKeys == (fn.params.toList ++ s.plain.varTypes P ++ fn.resultTypes.toList).any (P.wideKeysFrom ·)) : Bool)) Try.prog 10 Try.f10 Rows.slabNamesSpec Rows.slabNamesRow = true := by kernel_rfl
theorem slabNames_c18 : (fun (P : Program) (f : FuncId) (fn : Func) (s : ChangeSpec) (c : OpenClaim) => (s.vars.all (P.varReadable ·) : Bool)) Try.prog 10 Try.f10 Rows.slabNamesSpec Rows.slabNamesRow = true := by kernel_rfl
theorem slabNames_c19 : (fun (P : Program) (f : FuncId) (fn : Func) (s : ChangeSpec) (c : OpenClaim) => (fn.resultTypes.all (fun t => P.readableRec t && decide (t < P.types.size)) : Bool)) Try.prog 10 Try.f10 Rows.slabNamesSpec Rows.slabNamesRow = true := by kernel_rfl
theorem slabNames_c20 : (fun (P : Program) (f : FuncId) (fn : Func) (s : ChangeSpec) (c : OpenClaim) => ((c.ifacesOut == fn.resultTypes.toList.any (P.ifacesRec ·)) : Bool)) Try.prog 10 Try.f10 Rows.slabNamesSpec Rows.slabNamesRow = true := by kernel_rfl
theorem slabNames_c21 : (fun (P : Program) (f : FuncId) (fn : Func) (s : ChangeSpec) (c : OpenClaim) => ((c.loopsOut == fn.resultTypes.toList.any (P.loopsFrom ·)) : Bool)) Try.prog 10 Try.f10 Rows.slabNamesSpec Rows.slabNamesRow = true := by kernel_rfl
theorem slabNames_c22 : (fun (P : Program) (f : FuncId) (fn : Func) (s : ChangeSpec) (c : OpenClaim) => ((c.plainKeys == P.plainKeys) : Bool)) Try.prog 10 Try.f10 Rows.slabNamesSpec Rows.slabNamesRow = true := by kernel_rfl
theorem slabNames_c23 : (fun (P : Program) (f : FuncId) (fn : Func) (s : ChangeSpec) (c : OpenClaim) => (c.shortTexts.isNone : Bool)) Try.prog 10 Try.f10 Rows.slabNamesSpec Rows.slabNamesRow = true := by kernel_rfl
theorem slabNames_c28 : (fun (P : Program) (f : FuncId) (fn : Func) (s : ChangeSpec) (c : OpenClaim) => ((c.kinds == (if c.domain.isEmpty then [] else fn.params.toList.map fun t => match P.underlying t with | some (.int k) => some k | _ => none)) : Bool)) Try.prog 10 Try.f10 Rows.slabNamesSpec Rows.slabNamesRow = true := by kernel_rfl
theorem slabNames_c29 : (fun (P : Program) (f : FuncId) (fn : Func) (s : ChangeSpec) (c : OpenClaim) => ((c.pinned == c.pinnedBy) : Bool)) Try.prog 10 Try.f10 Rows.slabNamesSpec Rows.slabNamesRow = true := by kernel_rfl
theorem slabNames_c30 : (fun (P : Program) (f : FuncId) (fn : Func) (s : ChangeSpec) (c : OpenClaim) => ((c.veiled == (fn.params.toList ++ s.plain.varTypes P ++ fn.resultTypes.toList).any (P.veiledRec ·)) : Bool)) Try.prog 10 Try.f10 Rows.slabNamesSpec Rows.slabNamesRow = true := by kernel_rfl
theorem slabNames_c31 : (fun (P : Program) (f : FuncId) (fn : Func) (s : ChangeSpec) (c : OpenClaim) => (c.veiledFits P fn.params.toList (fn.params.toList ++ s.plain.varTypes P ++ fn.resultTypes.toList) : Bool)) Try.prog 10 Try.f10 Rows.slabNamesSpec Rows.slabNamesRow = true := by kernel_rfl

set_option maxRecDepth 100000 in
theorem slabNames_closed : joinedFacts Try.prog 10 Try.f10 Rows.slabNamesSpec Rows.slabNamesRow = true := (and_mk (and_mk (and_mk (and_mk (and_mk (and_mk (and_mk (and_mk (and_mk (and_mk (and_mk (and_mk (and_mk (and_mk (and_mk (and_mk (and_mk (and_mk (and_mk (and_mk (and_mk (and_mk (and_mk (and_mk (and_mk (and_mk (and_mk (and_mk (and_mk (and_mk (and_mk slabNames_c0 laidOut) pmRowed) slabNames_c3) slabNames_c4) slabNames_c5) pmStops) slabNames_c7) pmKnobs) slabNames_c9) slabNames_c10) slabNames_c11) slabNames_c12) slabNames_c13) slabNames_c14) slabNames_c15) slabNames_c16) slabNames_c17) slabNames_c18) slabNames_c19) slabNames_c20) slabNames_c21) slabNames_c22) slabNames_c23) pmHeard) pmEnter) (by show (false == Try.prog.liftsFinal) = true; rw [pmLifts]; rfl)) pmMake) slabNames_c28) slabNames_c29) slabNames_c30) slabNames_c31)

theorem slabNames_of (walk : SlabNamesWalk) : Rows.SlabNamesSaid :=
  OpenClaim.holds_of_wide 10 Try.f10 rfl rfl rfl rfl rfl rfl rfl ⟨rfl, rfl, rfl, rfl, rfl⟩ rfl rfl rfl rfl rfl (by as_aux_lemma => kernel_rfl) Try.func10 slabNames_closed
    (of_decide_eq_true (by kernel_rfl)) (by unfold Func.isWrapper; first | (rw [if_pos (by decide +kernel)]; kernel_rfl) | (rw [if_neg (by decide +kernel)]; exact ⟨rfl, rfl⟩))
    (fun os started H enc _ => slabNames_lifted walk os started H enc)

end Go.Proofs.Ytaeklmnleampcaa
