/- The frame of the statement SpanTells: what its walk owes, and that this is enough. -/
import Derived.Test.YtaeklmnleampcaaClosed
namespace Go.Proofs.Ytaeklmnleampcaa
open Go.RowKit Go.ChangeShapes Go.WideShapes Go.ChangeAt
set_option linter.unusedVariables false

/-- What the walk of SpanTells owes. -/
def SpanTellsWalk : Prop := ∀ (w : World) (v0 : Value) (l0 : List (Int × Int)) (a1 : Int) (a2 : Int), SpanSl w v0 l0 → (v0 = .slice none 0 0 ∨ ∃ x n c, v0 = .slice (some x) n c) → l0.length * 16 ≤ 140737488351232 → inI64 a1 → inI64 a2 → Calls Try.prog 8 #[v0, .int .i64 a1, .int .i64 a2] w fun e w' => e = .returned (.bool true) ∧ Below w.heap.size w w'

set_option maxRecDepth 100000 in
theorem spanTells_lifted (walk : SpanTellsWalk) (os : Os) (started : os.Started) (H : Type) (enc : TypeId × Value → H) :
    ReturnsInHanded {} Try.checked os 8 .any (Rows.spanTellsSpec.pre6 enc Try.prog Try.f8 Rows.spanTellsRow.domain false) (Rows.spanTellsSpec.post enc Try.prog Try.f8 false true false false) := by
  refine returnsInHanded_of_change_sized (C := Try.checked) own started (by as_aux_lemma => kernel_rfl) Try.func8
    (ChangeSpec.witness6 (enc := enc) (C := Try.checked) false ⟨#[], #[.slice none 0 0, .int .i64 0, .int .i64 0], []⟩ 8 (by as_aux_lemma => kernel_rfl) (by as_aux_lemma => kernel_rfl) (by as_aux_lemma => kernel_rfl) (by as_aux_lemma => kernel_rfl)) ?_
  intro W base args ds gs before hval0 hW hcnd hsz0 _
  have hsz : (DataW.weightsEach Try.prog (Try.f8.params.toList ++ Rows.spanTellsSpec.plain.varTypes Try.prog) (ds ++ gs)).all (· ≤ reachBytes) = true := hsz0
  clear hsz0
  have hval : ∀ (j : Nat) t v, Try.f8.params[j]? = some t → args[j]? = some v → Value.okWide Try.prog W .any base t v := hval0
  have hW' := hW
  obtain ⟨p, q, hA0, hV, rfl, hfz, hnd⟩ := hW
  have hA : DataW.TrodAll enc Try.prog W 0 (fun _ => true) true Try.f8.params.toList args.toList ds p := hA0
  rw [Try.params8] at hA hval hsz
  obtain ⟨v0, vs0, d0, ds0, p0, q0, hargs, rfl, rfl, h0, r0⟩ := trodAll_cons hA
  obtain ⟨v1, vs1, d1, ds1, p1, q1, rfl, rfl, rfl, h1, r1⟩ := trodAll_cons r0
  obtain ⟨v2, vs2, d2, ds2, p2, q2, rfl, rfl, rfl, h2, r2⟩ := trodAll_cons r1
  obtain ⟨rfl, rfl, rfl⟩ := trodAll_nil r2
  obtain rfl : args = #[v0, v1, v2] := by cases args; simp_all
  obtain ⟨rfl, rfl⟩ := trodVars_none hV
  obtain ⟨a0, len0, cap0, rfl⟩ := okWide_slice Try.underlying22 (hval 0 22 v0 rfl rfl)
  have k0 := h0
  have lt0 : ∀ x ∈ p0, x.block < W.heap.size := by obtain ⟨m, hm⟩ := k0; exact DataW.trod_lt m _ _ _ hm
  obtain ⟨l0, hv0, sh0⟩ : ∃ l, SpanSl W (.slice a0 len0 cap0) l ∧ ((a0 = none ∧ len0 = 0 ∧ cap0 = 0) ∨ ∃ elems rest x, a0 = some x ∧ d0 = DataW.slice elems rest ∧ elems.length = l.length) := by
    obtain ⟨fuel, hf⟩ := h0
    exact spans_arg (fun _ => rfl) hf
  have hb0 : l0.length * 16 ≤ 140737488351232 := by
    have hvv := hv0
    obtain ⟨ao, cp, he, _⟩ := hvv
    rcases sh0 with ⟨_, h, _⟩ | ⟨elems, rest, x, _, hd, hel⟩
    · simp only [Value.slice.injEq] at he; omega
    · have := sized_slice hsz (j := 0) (t := 22) (e := 51) (elems := elems) (spare := rest) rfl (by rw [hd]; rfl) Try.underlying22
      rw [show Try.prog.bytesOf 51 = 16 from by as_aux_lemma => kernel_rfl] at this
      unfold reachBytes at this
      omega
  have sv0 : Value.slice a0 len0 cap0 = .slice none 0 0 ∨ ∃ x n c, Value.slice a0 len0 cap0 = .slice (some x) n c := by
    rcases sh0 with ⟨rfl, rfl, rfl⟩ | ⟨_, _, x, rfl, _⟩
    · exact .inl rfl
    · exact .inr ⟨x, _, _, rfl⟩
  obtain ⟨a1, rfl, rfl, rfl, w1⟩ := open_int Try.underlying3 (hval 1 3 v1 rfl rfl) h1
  obtain ⟨a2, rfl, rfl, rfl, w2⟩ := open_int Try.underlying3 (hval 2 3 v2 rfl rfl) h2
  clear hA0 hval0
  refine (walk W _ l0 a1 a2 hv0 sv0 hb0 (wf_in w1) (wf_in w2)).mono fun e W' ⟨he, bel⟩ => ?_
  subst he
  exact ⟨_, rfl, _, _, _, [], _, [], hW', trodAll_mk1 (shut_bool Try.underlying4 _), (trodAll_cons_mk (Below.trod laidOut (by as_aux_lemma => kernel_rfl) (of_decide_eq_true (by as_aux_lemma => kernel_rfl)) k0 bel lt0) (trodAll_cons_mk (shut_int Try.underlying3 w1) (trodAll_cons_mk (shut_int Try.underlying3 w2) trodAll_mk0))), rfl, bel.frame _, fun h => by cases h⟩

theorem spanTells_c0 : (fun (P : Program) (f : FuncId) (fn : Func) (s : ChangeSpec) (c : OpenClaim) => (c.wf (OpenSpec.ofChange s) : Bool)) Try.prog 8 Try.f8 Rows.spanTellsSpec Rows.spanTellsRow = true := by kernel_rfl
theorem spanTells_c3 : (fun (P : Program) (f : FuncId) (fn : Func) (s : ChangeSpec) (c : OpenClaim) => (fn.params.all (P.readableRec ·) : Bool)) Try.prog 8 Try.f8 Rows.spanTellsSpec Rows.spanTellsRow = true := by kernel_rfl
theorem spanTells_c4 : (fun (P : Program) (f : FuncId) (fn : Func) (s : ChangeSpec) (c : OpenClaim) => (namedTie P c.named s.vars : Bool)) Try.prog 8 Try.f8 Rows.spanTellsSpec Rows.spanTellsRow = true := by kernel_rfl
theorem spanTells_c5 : (fun (P : Program) (f : FuncId) (fn : Func) (s : ChangeSpec) (c : OpenClaim) => ((c.stops == []) : Bool)) Try.prog 8 Try.f8 Rows.spanTellsSpec Rows.spanTellsRow = true := by kernel_rfl
theorem spanTells_c7 : (fun (P : Program) (f : FuncId) (fn : Func) (s : ChangeSpec) (c : OpenClaim) => ((c.knobs == []) : Bool)) Try.prog 8 Try.f8 Rows.spanTellsSpec Rows.spanTellsRow = true := by kernel_rfl
theorem spanTells_c9 : (fun (P : Program) (f : FuncId) (fn : Func) (s : ChangeSpec) (c : OpenClaim) => ((c.inPlace == P.inPlace f) : Bool)) Try.prog 8 Try.f8 Rows.spanTellsSpec Rows.spanTellsRow = true := by kernel_rfl
theorem spanTells_c10 : (fun (P : Program) (f : FuncId) (fn : Func) (s : ChangeSpec) (c : OpenClaim) => ((c.unfollowed == P.unfollowed f) : Bool)) Try.prog 8 Try.f8 Rows.spanTellsSpec Rows.spanTellsRow = true := by kernel_rfl
theorem spanTells_c11 : (fun (P : Program) (f : FuncId) (fn : Func) (s : ChangeSpec) (c : OpenClaim) => ((c.recurses == P.recurses f) : Bool)) Try.prog 8 Try.f8 Rows.spanTellsSpec Rows.spanTellsRow = true := by kernel_rfl
theorem spanTells_c12 : (fun (P : Program) (f : FuncId) (fn : Func) (s : ChangeSpec) (c : OpenClaim) => ((c.named == P.varsNamed f) : Bool)) Try.prog 8 Try.f8 Rows.spanTellsSpec Rows.spanTellsRow = true := by kernel_rfl
theorem spanTells_c13 : (fun (P : Program) (f : FuncId) (fn : Func) (s : ChangeSpec) (c : OpenClaim) => ((c.maps == (fn.params.toList ++ s.plain.varTypes P).any (P.mapsRec ·)) : Bool)) Try.prog 8 Try.f8 Rows.spanTellsSpec Rows.spanTellsRow = true := by kernel_rfl
theorem spanTells_c14 : (fun (P : Program) (f : FuncId) (fn : Func) (s : ChangeSpec) (c : OpenClaim) => ((c.ifaces == (fn.params.toList ++ s.plain.varTypes P).any (P.ifacesRec ·)) : Bool)) Try.prog 8 Try.f8 Rows.spanTellsSpec Rows.spanTellsRow = true := by kernel_rfl
theorem spanTells_c15 : (fun (P : Program) (f : FuncId) (fn : Func) (s : ChangeSpec) (c : OpenClaim) => ((c.mapsOut == P.mapsAmong fn.resultTypes.toList) : Bool)) Try.prog 8 Try.f8 Rows.spanTellsSpec Rows.spanTellsRow = true := by kernel_rfl
theorem spanTells_c16 : (fun (P : Program) (f : FuncId) (fn : Func) (s : ChangeSpec) (c : OpenClaim) => ((c.loops == (fn.params.toList ++ s.plain.varTypes P).any (P.loopsFrom ·)) : Bool)) Try.prog 8 Try.f8 Rows.spanTellsSpec Rows.spanTellsRow = true := by kernel_rfl
theorem spanTells_c17 : (fun (P : Program) (f : FuncId) (fn : Func) (s : ChangeSpec) (c : OpenClaim) => ((c.wideKeys == (fn.params.toList ++ s.plain.varTypes P ++ fn.resultTypes.toList).any (P.wideKeysFrom ·)) : Bool)) Try.prog 8 Try.f8 Rows.spanTellsSpec Rows.spanTellsRow = true := by kernel_rfl
theorem spanTells_c18 : (fun (P : Program) (f : FuncId) (fn : Func) (s : ChangeSpec) (c : OpenClaim) => (s.vars.all (P.varReadable ·) : Bool)) Try.prog 8 Try.f8 Rows.spanTellsSpec Rows.spanTellsRow = true := by kernel_rfl
theorem spanTells_c19 : (fun (P : Program) (f : FuncId) (fn : Func) (s : ChangeSpec) (c : OpenClaim) => (fn.resultTypes.all (fun t => P.readableRec t && decide (t < P.types.size)) : Bool)) Try.prog 8 Try.f8 Rows.spanTellsSpec Rows.spanTellsRow = true := by kernel_rfl
theorem spanTells_c20 : (fun (P : Program) (f : FuncId) (fn : Func) (s : ChangeSpec) (c : OpenClaim) => ((c.ifacesOut == fn.resultTypes.toList.any (P.ifacesRec ·)) : Bool)) Try.prog 8 Try.f8 Rows.spanTellsSpec Rows.spanTellsRow = true := by kernel_rfl
theorem spanTells_c21 : (fun (P : Program) (f : FuncId) (fn : Func) (s : ChangeSpec) (c : OpenClaim) => ((c.loopsOut == fn.resultTypes.toList.any (P.loopsFrom ·)) : Bool)) Try.prog 8 Try.f8 Rows.spanTellsSpec Rows.spanTellsRow = true := by kernel_rfl
theorem spanTells_c22 : (fun (P : Program) (f : FuncId) (fn : Func) (s : ChangeSpec) (c : OpenClaim) => ((c.plainKeys == P.plainKeys) : Bool)) Try.prog 8 Try.f8 Rows.spanTellsSpec Rows.spanTellsRow = true := by kernel_rfl
theorem spanTells_c23 : (fun (P : Program) (f : FuncId) (fn : Func) (s : ChangeSpec) (c : OpenClaim) => (c.shortTexts.isNone : Bool)) Try.prog 8 Try.f8 Rows.spanTellsSpec Rows.spanTellsRow = true := by kernel_rfl
theorem spanTells_c28 : (fun (P : Program) (f : FuncId) (fn : Func) (s : ChangeSpec) (c : OpenClaim) => ((c.kinds == (if c.domain.isEmpty then [] else fn.params.toList.map fun t => match P.underlying t with | some (.int k) => some k | _ => none)) : Bool)) Try.prog 8 Try.f8 Rows.spanTellsSpec Rows.spanTellsRow = true := by kernel_rfl
theorem spanTells_c29 : (fun (P : Program) (f : FuncId) (fn : Func) (s : ChangeSpec) (c : OpenClaim) => ((c.pinned == c.pinnedBy) : Bool)) Try.prog 8 Try.f8 Rows.spanTellsSpec Rows.spanTellsRow = true := by kernel_rfl
theorem spanTells_c30 : (fun (P : Program) (f : FuncId) (fn : Func) (s : ChangeSpec) (c : OpenClaim) => ((c.veiled == (fn.params.toList ++ s.plain.varTypes P ++ fn.resultTypes.toList).any (P.veiledRec ·)) : Bool)) Try.prog 8 Try.f8 Rows.spanTellsSpec Rows.spanTellsRow = true := by kernel_rfl
theorem spanTells_c31 : (fun (P : Program) (f : FuncId) (fn : Func) (s : ChangeSpec) (c : OpenClaim) => (c.veiledFits P fn.params.toList (fn.params.toList ++ s.plain.varTypes P ++ fn.resultTypes.toList) : Bool)) Try.prog 8 Try.f8 Rows.spanTellsSpec Rows.spanTellsRow = true := by kernel_rfl

set_option maxRecDepth 100000 in
theorem spanTells_closed : joinedFacts Try.prog 8 Try.f8 Rows.spanTellsSpec Rows.spanTellsRow = true := (and_mk (and_mk (and_mk (and_mk (and_mk (and_mk (and_mk (and_mk (and_mk (and_mk (and_mk (and_mk (and_mk (and_mk (and_mk (and_mk (and_mk (and_mk (and_mk (and_mk (and_mk (and_mk (and_mk (and_mk (and_mk (and_mk (and_mk (and_mk (and_mk (and_mk (and_mk spanTells_c0 laidOut) pmRowed) spanTells_c3) spanTells_c4) spanTells_c5) pmStops) spanTells_c7) pmKnobs) spanTells_c9) spanTells_c10) spanTells_c11) spanTells_c12) spanTells_c13) spanTells_c14) spanTells_c15) spanTells_c16) spanTells_c17) spanTells_c18) spanTells_c19) spanTells_c20) spanTells_c21) spanTells_c22) spanTells_c23) pmHeard) pmEnter) (by show (false == Try.prog.liftsFinal) = true; rw [pmLifts]; rfl)) pmMake) spanTells_c28) spanTells_c29) spanTells_c30) spanTells_c31)

theorem spanTells_of (walk : SpanTellsWalk) : Rows.SpanTellsSaid :=
  OpenClaim.holds_of_wide 8 Try.f8 rfl rfl rfl rfl rfl rfl rfl ⟨rfl, rfl, rfl, rfl, rfl⟩ rfl rfl rfl rfl rfl (by as_aux_lemma => kernel_rfl) Try.func8 spanTells_closed
    (of_decide_eq_true (by kernel_rfl)) (by unfold Func.isWrapper; first | (rw [if_pos (by decide +kernel)]; kernel_rfl) | (rw [if_neg (by decide +kernel)]; exact ⟨rfl, rfl⟩))
    (fun os started H enc _ => spanTells_lifted walk os started H enc)

end Go.Proofs.Ytaeklmnleampcaa
