/- The frame of the statement SlabRuns: what its walk owes, and that this is enough. -/
import Derived.Test.YtaeklmnleampcaaClosed
namespace Go.Proofs.Ytaeklmnleampcaa
open Go.RowKit Go.ChangeShapes Go.WideShapes Go.ChangeAt
set_option linter.unusedVariables false

/-- What the walk of SlabRuns owes. -/
def SlabRunsWalk : Prop := ∀ (w : World) (a0 : Int) (v1 : Value) (l1 : List (Int × Int)) (a2 : Int), inI64 a0 → SpanSl w v1 l1 → (v1 = .slice none 0 0 ∨ ∃ x n c, v1 = .slice (some x) n c) → l1.length * 16 ≤ 140737488351232 → inI64 a2 → Calls Try.prog 17 #[.int .i64 a0, v1, .int .i64 a2] w fun e w' => e = .returned (.bool true) ∧ Below w.heap.size w w'

set_option maxRecDepth 100000 in
theorem slabRuns_lifted (walk : SlabRunsWalk) (os : Os) (started : os.Started) (H : Type) (enc : TypeId × Value → H) :
    ReturnsInHanded {} Try.checked os 17 .any (Rows.slabRunsSpec.pre6 enc Try.prog Try.f17 Rows.slabRunsRow.domain false) (Rows.slabRunsSpec.post enc Try.prog Try.f17 false true false false) := by
  refine returnsInHanded_of_change_sized (C := Try.checked) own started (by as_aux_lemma => kernel_rfl) Try.func17
    (ChangeSpec.witness6 (enc := enc) (C := Try.checked) false ⟨#[], #[.int .i64 0, .slice none 0 0, .int .i64 0], []⟩ 8 (by as_aux_lemma => kernel_rfl) (by as_aux_lemma => kernel_rfl) (by as_aux_lemma => kernel_rfl) (by as_aux_lemma => kernel_rfl)) ?_
  intro W base args ds gs before hval0 hW hcnd hsz0 _
  have hsz : (DataW.weightsEach Try.prog (Try.f17.params.toList ++ Rows.slabRunsSpec.plain.varTypes Try.prog) (ds ++ gs)).all (· ≤ reachBytes) = true := hsz0
  clear hsz0
  have hval : ∀ (j : Nat) t v, Try.f17.params[j]? = some t → args[j]? = some v → Value.okWide Try.prog W .any base t v := hval0
  have hW' := hW
  obtain ⟨p, q, hA0, hV, rfl, hfz, hnd⟩ := hW
  have hA : DataW.TrodAll enc Try.prog W 0 (fun _ => true) true Try.f17.params.toList args.toList ds p := hA0
  rw [Try.params17] at hA hval hsz
  obtain ⟨v0, vs0, d0, ds0, p0, q0, hargs, rfl, rfl, h0, r0⟩ := trodAll_cons hA
  obtain ⟨v1, vs1, d1, ds1, p1, q1, rfl, rfl, rfl, h1, r1⟩ := trodAll_cons r0
  obtain ⟨v2, vs2, d2, ds2, p2, q2, rfl, rfl, rfl, h2, r2⟩ := trodAll_cons r1
  obtain ⟨rfl, rfl, rfl⟩ := trodAll_nil r2
  obtain rfl : args = #[v0, v1, v2] := by cases args; simp_all
  obtain ⟨rfl, rfl⟩ := trodVars_none hV
  obtain ⟨a0, rfl, rfl, rfl, w0⟩ := open_int Try.underlying3 (hval 0 3 v0 rfl rfl) h0
  obtain ⟨a1, len1, cap1, rfl⟩ := okWide_slice Try.underlying35 (hval 1 35 v1 rfl rfl)
  have k1 := h1
  have lt1 : ∀ x ∈ p1, x.block < W.heap.size := by obtain ⟨m, hm⟩ := k1; exact DataW.trod_lt m _ _ _ hm
  obtain ⟨l1, hv1, sh1⟩ : ∃ l, SpanSl W (.slice a1 len1 cap1) l ∧ ((a1 = none ∧ len1 = 0 ∧ cap1 = 0) ∨ ∃ elems rest x, a1 = some x ∧ d1 = DataW.slice elems rest ∧ elems.length = l.length) := by
    obtain ⟨fuel, hf⟩ := h1
    exact acts_arg (fun _ => rfl) hf
  have hb1 : l1.length * 16 ≤ 140737488351232 := by
    have hvv := hv1
    obtain ⟨ao, cp, he, _⟩ := hvv
    rcases sh1 with ⟨_, h, _⟩ | ⟨elems, rest, x, _, hd, hel⟩
    · simp only [Value.slice.injEq] at he; omega
    · have := sized_slice hsz (j := 1) (t := 35) (e := 39) (elems := elems) (spare := rest) rfl (by rw [hd]; rfl) Try.underlying35
      rw [show Try.prog.bytesOf 39 = 16 from by as_aux_lemma => kernel_rfl] at this
      unfold reachBytes at this
      omega
  have sv1 : Value.slice a1 len1 cap1 = .slice none 0 0 ∨ ∃ x n c, Value.slice a1 len1 cap1 = .slice (some x) n c := by
    rcases sh1 with ⟨rfl, rfl, rfl⟩ | ⟨_, _, x, rfl, _⟩
    · exact .inl rfl
    · exact .inr ⟨x, _, _, rfl⟩
  obtain ⟨a2, rfl, rfl, rfl, w2⟩ := open_int Try.underlying3 (hval 2 3 v2 rfl rfl) h2
  clear hA0 hval0
  refine (walk W a0 _ l1 a2 (wf_in w0) hv1 sv1 hb1 (wf_in w2)).mono fun e W' ⟨he, bel⟩ => ?_
  subst he
  exact ⟨_, rfl, _, _, _, [], _, [], hW', trodAll_mk1 (shut_bool Try.underlying4 _), (trodAll_cons_mk (shut_int Try.underlying3 w0) (trodAll_cons_mk (Below.trod laidOut (by as_aux_lemma => kernel_rfl) (of_decide_eq_true (by as_aux_lemma => kernel_rfl)) k1 bel lt1) (trodAll_cons_mk (shut_int Try.underlying3 w2) trodAll_mk0))), rfl, bel.frame _, fun h => by cases h⟩

theorem slabRuns_c0 : (fun (P : Program) (f : FuncId) (fn : Func) (s : ChangeSpec) (c : OpenClaim) => (c.wf (OpenSpec.ofChange s) : Bool)) Try.prog 17 Try.f17 Rows.slabRunsSpec Rows.slabRunsRow = true := by kernel_rfl
theorem slabRuns_c3 : (fun (P : Program) (f : FuncId) (fn : Func) (s : ChangeSpec) (c : OpenClaim) => (fn.params.all (P.readableRec ·) : Bool)) Try.prog 17 Try.f17 Rows.slabRunsSpec Rows.slabRunsRow = true := by kernel_rfl
theorem slabRuns_c4 : (fun (P : Program) (f : FuncId) (fn : Func) (s : ChangeSpec) (c : OpenClaim) => (namedTie P c.named s.vars : Bool)) Try.prog 17 Try.f17 Rows.slabRunsSpec Rows.slabRunsRow = true := by kernel_rfl
theorem slabRuns_c5 : (fun (P : Program) (f : FuncId) (fn : Func) (s : ChangeSpec) (c : OpenClaim) => ((c.stops == []) : Bool)) Try.prog 17 Try.f17 Rows.slabRunsSpec Rows.slabRunsRow = true := by kernel_rfl
theorem slabRuns_c7 : (fun (P : Program) (f : FuncId) (fn : Func) (s : ChangeSpec) (c : OpenClaim) => ((c.knobs == []) : Bool)) Try.prog 17 Try.f17 Rows.slabRunsSpec Rows.slabRunsRow = true := by kernel_rfl
theorem slabRuns_c9 : (fun (P : Program) (f : FuncId) (fn : Func) (s : ChangeSpec) (c : OpenClaim) => ((c.inPlace == P.inPlace f) : Bool)) Try.prog 17 Try.f17 Rows.slabRunsSpec Rows.slabRunsRow = true := by kernel_rfl
theorem slabRuns_c10 : (fun (P : Program) (f : FuncId) (fn : Func) (s : ChangeSpec) (c : OpenClaim) => ((c.unfollowed == P.unfollowed f) : Bool)) Try.prog 17 Try.f17 Rows.slabRunsSpec Rows.slabRunsRow = true := by kernel_rfl
theorem slabRuns_c11 : (fun (P : Program) (f : FuncId) (fn : Func) (s : ChangeSpec) (c : OpenClaim) => ((c.recurses == P.recurses f) : Bool)) Try.prog 17 Try.f17 Rows.slabRunsSpec Rows.slabRunsRow = true := by kernel_rfl
theorem slabRuns_c12 : (fun (P : Program) (f : FuncId) (fn : Func) (s : ChangeSpec) (c : OpenClaim) => ((c.named == P.varsNamed f) : Bool)) Try.prog 17 Try.f17 Rows.slabRunsSpec Rows.slabRunsRow = true := by kernel_rfl
theorem slabRuns_c13 : (fun (P : Program) (f : FuncId) (fn : Func) (s : ChangeSpec) (c : OpenClaim) => ((c.maps == (fn.params.toList ++ s.plain.varTypes P).any (P.mapsRec ·)) : Bool)) Try.prog 17 Try.f17 Rows.slabRunsSpec Rows.slabRunsRow = true := by kernel_rfl
theorem slabRuns_c14 : (fun (P : Program) (f : FuncId) (fn : Func) (s : ChangeSpec) (c : OpenClaim) => ((c.ifaces == (fn.params.toList ++ s.plain.varTypes P).any (P.ifacesRec ·)) : Bool)) Try.prog 17 Try.f17 Rows.slabRunsSpec Rows.slabRunsRow = true := by kernel_rfl
theorem slabRuns_c15 : (fun (P : Program) (f : FuncId) (fn : Func) (s : ChangeSpec) (c : OpenClaim) => ((c.mapsOut == P.mapsAmong fn.resultTypes.toList) : Bool)) Try.prog 17 Try.f17 Rows.slabRunsSpec Rows.slabRunsRow = true := by kernel_rfl
theorem slabRuns_c16 : (fun (P : Program) (f : FuncId) (fn : Func) (s : ChangeSpec) (c : OpenClaim) => ((c.loops == (fn.params.toList ++ s.plain.varTypes P).any (P.loopsFrom ·)) : Bool)) Try.prog 17 Try.f17 Rows.slabRunsSpec Rows.slabRunsRow = true := by kernel_rfl
theorem slabRuns_c17 : (fun (P : Program) (f : FuncId) (fn : Func) (s : ChangeSpec) (c : OpenClaim) => ((c.wideKeys == (fn.params.toList ++ s.plain.varTypes P ++ fn.resultTypes.toList).any (P.wideKeysFrom ·)) : Bool)) Try.prog 17 Try.f17 Rows.slabRunsSpec Rows.slabRunsRow = true := by kernel_rfl
theorem slabRuns_c18 : (fun (P : Program) (f : FuncId) (fn : Func) (s : ChangeSpec) (c : OpenClaim) => (s.vars.all (P.varReadable ·) : Bool)) Try.prog 17 Try.f17 Rows.slabRunsSpec Rows.slabRunsRow = true := by kernel_rfl
theorem slabRuns_c19 : (fun (P : Program) (f : FuncId) (fn : Func) (s : ChangeSpec) (c : OpenClaim) => (fn.resultTypes.all (fun t => P.readableRec t && decide (t < P.types.size)) : Bool)) Try.prog 17 Try.f17 Rows.slabRunsSpec Rows.slabRunsRow = true := by kernel_rfl
theorem slabRuns_c20 : (fun (P : Program) (f : FuncId) (fn : Func) (s : ChangeSpec) (c : OpenClaim) => ((c.ifacesOut == fn.resultTypes.toList.any (P.ifacesRec ·)) : Bool)) Try.prog 17 Try.f17 Rows.slabRunsSpec Rows.slabRunsRow = true := by kernel_rfl
theorem slabRuns_c21 : (fun (P : Program) (f : FuncId) (fn : Func) (s : ChangeSpec) (c : OpenClaim) => ((c.loopsOut == fn.resultTypes.toList.any (P.loopsFrom ·)) : Bool)) Try.prog 17 Try.f17 Rows.slabRunsSpec Rows.slabRunsRow = true := by kernel_rfl
theorem slabRuns_c22 : (fun (P : Program) (f : FuncId) (fn : Func) (s : ChangeSpec) (c : OpenClaim) => ((c.plainKeys == P.plainKeys) : Bool)) Try.prog 17 Try.f17 Rows.slabRunsSpec Rows.slabRunsRow = true := by kernel_rfl
theorem slabRuns_c23 : (fun (P : Program) (f : FuncId) (fn : Func) (s : ChangeSpec) (c : OpenClaim) => (c.shortTexts.isNone : Bool)) Try.prog 17 Try.f17 Rows.slabRunsSpec Rows.slabRunsRow = true := by kernel_rfl
theorem slabRuns_c28 : (fun (P : Program) (f : FuncId) (fn : Func) (s : ChangeSpec) (c : OpenClaim) => ((c.kinds == (if c.domain.isEmpty then [] else fn.params.toList.map fun t => match P.underlying t with | some (.int k) => some k | _ => none)) : Bool)) Try.prog 17 Try.f17 Rows.slabRunsSpec Rows.slabRunsRow = true := by kernel_rfl
theorem slabRuns_c29 : (fun (P : Program) (f : FuncId) (fn : Func) (s : ChangeSpec) (c : OpenClaim) => ((c.pinned == c.pinnedBy) : Bool)) Try.prog 17 Try.f17 Rows.slabRunsSpec Rows.slabRunsRow = true := by kernel_rfl
theorem slabRuns_c30 : (fun (P : Program) (f : FuncId) (fn : Func) (s : ChangeSpec) (c : OpenClaim) => ((c.veiled == (fn.params.toList ++ s.plain.varTypes P ++ fn.resultTypes.toList).any (P.veiledRec ·)) : Bool)) Try.prog 17 Try.f17 Rows.slabRunsSpec Rows.slabRunsRow = true := by kernel_rfl
theorem slabRuns_c31 : (fun (P : Program) (f : FuncId) (fn : Func) (s : ChangeSpec) (c : OpenClaim) => (c.veiledFits P fn.params.toList (fn.params.toList ++ s.plain.varTypes P ++ fn.resultTypes.toList) : Bool)) Try.prog 17 Try.f17 Rows.slabRunsSpec Rows.slabRunsRow = true := by kernel_rfl

set_option maxRecDepth 100000 in
theorem slabRuns_closed : joinedFacts Try.prog 17 Try.f17 Rows.slabRunsSpec Rows.slabRunsRow = true := (and_mk (and_mk (and_mk (and_mk (and_mk (and_mk (and_mk (and_mk (and_mk (and_mk (and_mk (and_mk (and_mk (and_mk (and_mk (and_mk (and_mk (and_mk (and_mk (and_mk (and_mk (and_mk (and_mk (and_mk (and_mk (and_mk (and_mk (and_mk (and_mk (and_mk (and_mk slabRuns_c0 laidOut) pmRowed) slabRuns_c3) slabRuns_c4) slabRuns_c5) pmStops) slabRuns_c7) pmKnobs) slabRuns_c9) slabRuns_c10) slabRuns_c11) slabRuns_c12) slabRuns_c13) slabRuns_c14) slabRuns_c15) slabRuns_c16) slabRuns_c17) slabRuns_c18) slabRuns_c19) slabRuns_c20) slabRuns_c21) slabRuns_c22) slabRuns_c23) pmHeard) pmEnter) (by show (false == Try.prog.liftsFinal) = true; rw [pmLifts]; rfl)) pmMake) slabRuns_c28) slabRuns_c29) slabRuns_c30) slabRuns_c31)

theorem slabRuns_of (walk : SlabRunsWalk) : Rows.SlabRunsSaid :=
  OpenClaim.holds_of_wide 17 Try.f17 rfl rfl rfl rfl rfl rfl rfl ⟨rfl, rfl, rfl, rfl, rfl⟩ rfl rfl rfl rfl rfl (by as_aux_lemma => kernel_rfl) Try.func17 slabRuns_closed
    (of_decide_eq_true (by kernel_rfl)) (by unfold Func.isWrapper; first | (rw [if_pos (by decide +kernel)]; kernel_rfl) | (rw [if_neg (by decide +kernel)]; exact ⟨rfl, rfl⟩))
    (fun os started H enc _ => slabRuns_lifted walk os started H enc)

end Go.Proofs.Ytaeklmnleampcaa
