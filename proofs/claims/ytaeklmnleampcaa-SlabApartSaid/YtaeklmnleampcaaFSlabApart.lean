/- The frame of the statement SlabApart: what its walk owes, and that this is enough. -/
import Derived.Test.YtaeklmnleampcaaClosed
namespace Go.Proofs.Ytaeklmnleampcaa
open Go.RowKit Go.ChangeShapes Go.WideShapes Go.ChangeAt
set_option linter.unusedVariables false

/-- What the walk of SlabApart owes. -/
def SlabApartWalk : Prop := ∀ (w : World) (a0 : Int) (v1 : Value) (l1 : List (Int × Int)), inI64 a0 → SpanSl w v1 l1 → (v1 = .slice none 0 0 ∨ ∃ x n c, v1 = .slice (some x) n c) → l1.length * 16 ≤ 140737488351232 → Calls Try.prog 14 #[.int .i64 a0, v1] w fun e w' => e = .returned (.bool true) ∧ Below w.heap.size w w'

set_option maxRecDepth 100000 in
theorem slabApart_lifted (walk : SlabApartWalk) (os : Os) (started : os.Started) (H : Type) (enc : TypeId × Value → H) :
    ReturnsInHanded {} Try.checked os 14 .any (Rows.slabApartSpec.pre6 enc Try.prog Try.f14 Rows.slabApartRow.domain false) (Rows.slabApartSpec.post enc Try.prog Try.f14 false true false false) := by
  refine returnsInHanded_of_change_sized (C := Try.checked) own started (by as_aux_lemma => kernel_rfl) Try.func14
    (ChangeSpec.witness6 (enc := enc) (C := Try.checked) false ⟨#[], #[.int .i64 0, .slice none 0 0], []⟩ 8 (by as_aux_lemma => kernel_rfl) (by as_aux_lemma => kernel_rfl) (by as_aux_lemma => kernel_rfl) (by as_aux_lemma => kernel_rfl)) ?_
  intro W base args ds gs before hval0 hW hcnd hsz0 _
  have hsz : (DataW.weightsEach Try.prog (Try.f14.params.toList ++ Rows.slabApartSpec.plain.varTypes Try.prog) (ds ++ gs)).all (· ≤ reachBytes) = true := hsz0
  clear hsz0
  have hval : ∀ (j : Nat) t v, Try.f14.params[j]? = some t → args[j]? = some v → Value.okWide Try.prog W .any base t v := hval0
  have hW' := hW
  obtain ⟨p, q, hA0, hV, rfl, hfz, hnd⟩ := hW
  have hA : DataW.TrodAll enc Try.prog W 0 (fun _ => true) true Try.f14.params.toList args.toList ds p := hA0
  rw [Try.params14] at hA hval hsz
  obtain ⟨v0, vs0, d0, ds0, p0, q0, hargs, rfl, rfl, h0, r0⟩ := trodAll_cons hA
  obtain ⟨v1, vs1, d1, ds1, p1, q1, rfl, rfl, rfl, h1, r1⟩ := trodAll_cons r0
  obtain ⟨rfl, rfl, rfl⟩ := trodAll_nil r1
  obtain rfl : args = #[v0, v1] := by cases args; simp_all
  obtain ⟨rfl, rfl⟩ := trodVars_none hV
  obtain ⟨a0, rfl, rfl, rfl, w0⟩ := open_int Try.underlying3 (hval 0 3 v0 rfl rfl) h0
  obtain ⟨a1, len1, cap1, rfl⟩ := okWide_slice Try.underlying35 (hval 1 35 v1 rfl rfl)
  have k1 := h1
  have lt1 : ∀ x ∈ p1, x.block < W.heap.size := by obtain ⟨m, hm⟩ := k1; exact DataW.trod_lt m _ _ _ hm
  obtain ⟨l1, hv1, sh1⟩ : ∃ l, SpanSl W (.slice a1 len1 cap1) l ∧ ((a1 = none ∧ len1 = 0 ∧ cap1 = 0) ∨ ∃ elems rest x, a1 = some x ∧ d1 = DataW.slice elems rest ∧ elems.length = l.length) := by
    obtain ⟨fuel, hf⟩ := h1
    exact acts_arg (fun _ => rfl) hf
  have hb1 : l1.length * 16 ≤ 140737488351232 := by
    have hvv := hv1
    obtain ⟨ao, cp, he, _⟩ := hvv
    rcases sh1 with ⟨_, h, _⟩ | ⟨elems, rest, x, _, hd, hel⟩
    · simp only [Value.slice.injEq] at he; omega
    · have := sized_slice hsz (j := 1) (t := 35) (e := 39) (elems := elems) (spare := rest) rfl (by rw [hd]; rfl) Try.underlying35
      rw [show Try.prog.bytesOf 39 = 16 from by as_aux_lemma => kernel_rfl] at this
      unfold reachBytes at this
      omega
  have sv1 : Value.slice a1 len1 cap1 = .slice none 0 0 ∨ ∃ x n c, Value.slice a1 len1 cap1 = .slice (some x) n c := by
    rcases sh1 with ⟨rfl, rfl, rfl⟩ | ⟨_, _, x, rfl, _⟩
    · exact .inl rfl
    · exact .inr ⟨x, _, _, rfl⟩
  clear hA0 hval0
  refine (walk W a0 _ l1 (wf_in w0) hv1 sv1 hb1).mono fun e W' ⟨he, bel⟩ => ?_
  subst he
  exact ⟨_, rfl, _, _, _, [], _, [], hW', trodAll_mk1 (shut_bool Try.underlying4 _), (trodAll_cons_mk (shut_int Try.underlying3 w0) (trodAll_cons_mk (Below.trod laidOut (by as_aux_lemma => kernel_rfl) (of_decide_eq_true (by as_aux_lemma => kernel_rfl)) k1 bel lt1) trodAll_mk0)), rfl, bel.frame _, fun h => by cases h⟩

theorem slabApart_c0 : (fun (P : Program) (f : FuncId) (fn : Func) (s : ChangeSpec) (c : OpenClaim) => (c.wf (OpenSpec.ofChange s) : Bool)) Try.prog 14 Try.f14 Rows.slabApartSpec Rows.slabApartRow = true := by kernel_rfl
theorem slabApart_c3 : (fun (P : Program) (f : FuncId) (fn : Func) (s : ChangeSpec) (c : OpenClaim) => (fn.params.all (P.readableRec ·) : Bool)) Try.prog 14 Try.f14 Rows.slabApartSpec Rows.slabApartRow = true := by kernel_rfl
theorem slabApart_c4 : (fun (P : Program) (f : FuncId) (fn : Func) (s : ChangeSpec) (c : OpenClaim) => (namedTie P c.named s.vars : Bool)) Try.prog 14 Try.f14 Rows.slabApartSpec Rows.slabApartRow = true := by kernel_rfl
theorem slabApart_c5 : (fun (P : Program) (f : FuncId) (fn : Func) (s : ChangeSpec) (c : OpenClaim) => ((c.stops == []) : Bool)) Try.prog 14 Try.f14 Rows.slabApartSpec Rows.slabApartRow = true := by kernel_rfl
theorem slabApart_c7 : (fun (P : Program) (f : FuncId) (fn : Func) (s : ChangeSpec) (c : OpenClaim) => ((c.knobs == []) : Bool)) Try.prog 14 Try.f14 Rows.slabApartSpec Rows.slabApartRow = true := by kernel_rfl
theorem slabApart_c9 : (fun (P : Program) (f : FuncId) (fn : Func) (s : ChangeSpec) (c : OpenClaim) => ((c.inPlace == P.inPlace f) : Bool)) Try.prog 14 Try.f14 Rows.slabApartSpec Rows.slabApartRow = true := by kernel_rfl
theorem slabApart_c10 : (fun (P : Program) (f : FuncId) (fn : Func) (s : ChangeSpec) (c : OpenClaim) => ((c.unfollowed == P.unfollowed f) : Bool)) Try.prog 14 Try.f14 Rows.slabApartSpec Rows.slabApartRow = true := by kernel_rfl
theorem slabApart_c11 : (fun (P : Program) (f : FuncId) (fn : Func) (s : ChangeSpec) (c : OpenClaim) => ((c.recurses == P.recurses f) : Bool)) Try.prog 14 Try.f14 Rows.slabApartSpec Rows.slabApartRow = true := by kernel_rfl
theorem slabApart_c12 : (fun (P : Program) (f : FuncId) (fn : Func) (s : ChangeSpec) (c : OpenClaim) => ((c.named == P.varsNamed f) : Bool)) Try.prog 14 Try.f14 Rows.slabApartSpec Rows.slabApartRow = true := by kernel_rfl
theorem slabApart_c13 : (fun (P : Program) (f : FuncId) (fn : Func) (s : ChangeSpec) (c : OpenClaim) => ((c.maps == (fn.params.toList ++ s.plain.varTypes P).any (P.mapsRec ·)) : Bool)) Try.prog 14 Try.f14 Rows.slabApartSpec Rows.slabApartRow = true := by kernel_rfl
theorem slabApart_c14 : (fun (P : Program) (f : FuncId) (fn : Func) (s : ChangeSpec) (c : OpenClaim) => ((c.ifaces == (fn.params.toList ++ s.plain.varTypes P).any (P.ifacesRec ·)) : Bool)) Try.prog 14 Try.f14 Rows.slabApartSpec Rows.slabApartRow = true := by kernel_rfl
theorem slabApart_c15 : (fun (P : Program) (f : FuncId) (fn : Func) (s : ChangeSpec) (c : OpenClaim) => ((c.mapsOut == P.mapsAmong fn.resultTypes.toList) : Bool)) Try.prog 14 Try.f14 Rows.slabApartSpec Rows.slabApartRow = true := by kernel_rfl
theorem slabApart_c16 : (fun (P : Program) (f : FuncId) (fn : Func) (s : ChangeSpec) (c : OpenClaim) => ((c.loops == (fn.params.toList ++ s.plain.varTypes P).any (P.loopsFrom ·)) : Bool)) Try.prog 14 Try.f14 Rows.slabApartSpec Rows.slabApartRow = true := by kernel_rfl
theorem slabApart_c17 : (fun (P : Program) (f : FuncId) (fn : Func) (s : ChangeSpec) (c : OpenClaim) => ((c.wideKeys == (fn.params.toList ++ s.plain.varTypes P ++ fn.resultTypes.toList).any (P.wideKeysFrom ·)) : Bool)) Try.prog 14 Try.f14 Rows.slabApartSpec Rows.slabApartRow = true := by kernel_rfl
theorem slabApart_c18 : (fun (P : Program) (f : FuncId) (fn : Func) (s : ChangeSpec) (c : OpenClaim) => (s.vars.all (P.varReadable ·) : Bool)) Try.prog 14 Try.f14 Rows.slabApartSpec Rows.slabApartRow = true := by kernel_rfl
theorem slabApart_c19 : (fun (P : Program) (f : FuncId) (fn : Func) (s : ChangeSpec) (c : OpenClaim) => (fn.resultTypes.all (fun t => P.readableRec t && decide (t < P.types.size)) : Bool)) Try.prog 14 Try.f14 Rows.slabApartSpec Rows.slabApartRow = true := by kernel_rfl
theorem slabApart_c20 : (fun (P : Program) (f : FuncId) (fn : Func) (s : ChangeSpec) (c : OpenClaim) => ((c.ifacesOut == fn.resultTypes.toList.any (P.ifacesRec ·)) : Bool)) Try.prog 14 Try.f14 Rows.slabApartSpec Rows.slabApartRow = true := by kernel_rfl
theorem slabApart_c21 : (fun (P : Program) (f : FuncId) (fn : Func) (s : ChangeSpec) (c : OpenClaim) => ((c.loopsOut == fn.resultTypes.toList.any (P.loopsFrom ·)) : Bool)) Try.prog 14 Try.f14 Rows.slabApartSpec Rows.slabApartRow = true := by kernel_rfl
theorem slabApart_c22 : (fun (P : Program) (f : FuncId) (fn : Func) (s : ChangeSpec) (c : OpenClaim) => ((c.plainKeys == P.plainKeys) : Bool)) Try.prog 14 Try.f14 Rows.slabApartSpec Rows.slabApartRow = true := by kernel_rfl
theorem slabApart_c23 : (fun (P : Program) (f : FuncId) (fn : Func) (s : ChangeSpec) (c : OpenClaim) => (c.shortTexts.isNone : Bool)) Try.prog 14 Try.f14 Rows.slabApartSpec Rows.slabApartRow = true := by kernel_rfl
theorem slabApart_c28 : (fun (P : Program) (f : FuncId) (fn : Func) (s : ChangeSpec) (c : OpenClaim) => ((c.kinds == (if c.domain.isEmpty then [] else fn.params.toList.map fun t => match P.underlying t with | some (.int k) => some k | _ => none)) : Bool)) Try.prog 14 Try.f14 Rows.slabApartSpec Rows.slabApartRow = true := by kernel_rfl
theorem slabApart_c29 : (fun (P : Program) (f : FuncId) (fn : Func) (s : ChangeSpec) (c : OpenClaim) => ((c.pinned == c.pinnedBy) : Bool)) Try.prog 14 Try.f14 Rows.slabApartSpec Rows.slabApartRow = true := by kernel_rfl
theorem slabApart_c30 : (fun (P : Program) (f : FuncId) (fn : Func) (s : ChangeSpec) (c : OpenClaim) => ((c.veiled == (fn.params.toList ++ s.plain.varTypes P ++ fn.resultTypes.toList).any (P.veiledRec ·)) : Bool)) Try.prog 14 Try.f14 Rows.slabApartSpec Rows.slabApartRow = true := by kernel_rfl
theorem slabApart_c31 : (fun (P : Program) (f : FuncId) (fn : Func) (s : ChangeSpec) (c : OpenClaim) => (c.veiledFits P fn.params.toList (fn.params.toList ++ s.plain.varTypes P ++ fn.resultTypes.toList) : Bool)) Try.prog 14 Try.f14 Rows.slabApartSpec Rows.slabApartRow = true := by kernel_rfl

set_option maxRecDepth 100000 in
theorem slabApart_closed : joinedFacts Try.prog 14 Try.f14 Rows.slabApartSpec Rows.slabApartRow = true := (and_mk (and_mk (and_mk (and_mk (and_mk (and_mk (and_mk (and_mk (and_mk (and_mk (and_mk (and_mk (and_mk (and_mk (and_mk (and_mk (and_mk (and_mk (and_mk (and_mk (and_mk (and_mk (and_mk (and_mk (and_mk (and_mk (and_mk (and_mk (and_mk (and_mk (and_mk slabApart_c0 laidOut) pmRowed) slabApart_c3) slabApart_c4) slabApart_c5) pmStops) slabApart_c7) pmKnobs) slabApart_c9) slabApart_c10) slabApart_c11) slabApart_c12) slabApart_c13) slabApart_c14) slabApart_c15) slabApart_c16) slabApart_c17) slabApart_c18) slabApart_c19) slabApart_c20) slabApart_c21) slabApart_c22) slabApart_c23) pmHeard) pmEnter) (by show (false == Try.prog.liftsFinal) = true; rw [pmLifts]; rfl)) pmMake) slabApart_c28) slabApart_c29) slabApart_c30) slabApart_c31)

theorem slabApart_of (walk : SlabApartWalk) : Rows.SlabApartSaid :=
  OpenClaim.holds_of_wide 14 Try.f14 rfl rfl rfl rfl rfl rfl rfl ⟨rfl, rfl, rfl, rfl, rfl⟩ rfl rfl rfl rfl rfl (by as_aux_lemma => kernel_rfl) Try.func14 slabApart_closed
    (of_decide_eq_true (by kernel_rfl)) (by unfold Func.isWrapper; first | (rw [if_pos (by decide +kernel)]; kernel_rfl) | (rw [if_neg (by decide +kernel)]; exact ⟨rfl, rfl⟩))
    (fun os started H enc _ => slabApart_lifted walk os started H enc)

end Go.Proofs.Ytaeklmnleampcaa
