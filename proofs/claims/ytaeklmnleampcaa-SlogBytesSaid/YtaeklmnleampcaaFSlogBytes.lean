/- The frame of the statement SlogBytes: what its walk owes, and that this is enough. -/
import Derived.Test.YtaeklmnleampcaaClosed
import Derived.Test.YtaeklmnleampcaaFrame2
import Derived.Test.YtaeklmnleampcaaArgs3
namespace Go.Proofs.Ytaeklmnleampcaa
open Go.RowKit Go.ChangeShapes Go.WideShapes Go.ChangeAt
set_option linter.unusedVariables false

/-- What the walk of SlogBytes owes. -/
def SlogBytesWalk : Prop := ∀ (w : World) (v0 : Value) (l0 : List (Bool × Int × Int)) (v1 : Value) (l1 : List Int), MoveSl w v0 l0 → (v0 = .slice none 0 0 ∨ ∃ x n c, v0 = .slice (some x) n c ∧ n ≤ c) → l0.length * 24 ≤ 140737488351232 → IntSl .u8 w v1 l1 → (v1 = .slice none 0 0 ∨ ∃ x n c, v1 = .slice (some x) n c ∧ n ≤ c) → l1.length * 1 ≤ 140737488351232 → Calls Try.prog 22 #[v0, v1] w fun e w' => e = .returned (.bool true) ∧ Below w.heap.size w w'

set_option maxRecDepth 100000 in
theorem slogBytes_lifted (walk : SlogBytesWalk) (os : Os) (started : os.Started) (H : Type) (enc : TypeId × Value → H) :
    ReturnsInHanded {} Try.checked os 22 .any (Rows.slogBytesSpec.pre6 enc Try.prog Try.f22 Rows.slogBytesRow.domain false) (Rows.slogBytesSpec.post enc Try.prog Try.f22 false true false false) := by
  refine returnsInHanded_of_change_sized (C := Try.checked) own started (by as_aux_lemma => kernel_rfl) Try.func22
    (ChangeSpec.witness6 (enc := enc) (C := Try.checked) false ⟨#[], #[.slice none 0 0, .slice none 0 0], []⟩ 8 (by as_aux_lemma => kernel_rfl) (by as_aux_lemma => kernel_rfl) (by as_aux_lemma => kernel_rfl) (by as_aux_lemma => kernel_rfl)) ?_
  intro W base args ds gs before hval0 hW hcnd hsz0 _
  have hsz : (DataW.weightsEach Try.prog (Try.f22.params.toList ++ Rows.slogBytesSpec.plain.varTypes Try.prog) (ds ++ gs)).all (· ≤ reachBytes) = true := hsz0
  clear hsz0
  have hval : ∀ (j : Nat) t v, Try.f22.params[j]? = some t → args[j]? = some v → Value.okWide Try.prog W .any base t v := hval0
  have hW' := hW
  obtain ⟨p, q, hA0, hV, rfl, hfz, hnd⟩ := hW
  have hA : DataW.TrodAll enc Try.prog W 0 (fun _ => true) true Try.f22.params.toList args.toList ds p := hA0
  rw [Try.params22] at hA hval hsz
  obtain ⟨v0, vs0, d0, ds0, p0, q0, hargs, rfl, rfl, h0, r0⟩ := trodAll_cons hA
  obtain ⟨v1, vs1, d1, ds1, p1, q1, rfl, rfl, rfl, h1, r1⟩ := trodAll_cons r0
  obtain ⟨rfl, rfl, rfl⟩ := trodAll_nil r1
  obtain rfl : args = #[v0, v1] := by cases args; simp_all
  obtain ⟨rfl, rfl⟩ := trodVars_none hV
  obtain ⟨a0, len0, cap0, rfl⟩ := okWide_slice Try.underlying32 (hval 0 32 v0 rfl rfl)
  have k0 := h0
  have lt0 : ∀ x ∈ p0, x.block < W.heap.size := by obtain ⟨m, hm⟩ := k0; exact DataW.trod_lt m _ _ _ hm
  obtain ⟨l0, hv0, sh0⟩ : ∃ l, MoveSl W (.slice a0 len0 cap0) l ∧ ((a0 = none ∧ len0 = 0 ∧ cap0 = 0) ∨ ∃ elems rest x, a0 = some x ∧ d0 = DataW.slice elems rest ∧ elems.length = l.length) := by
    obtain ⟨fuel, hf⟩ := h0
    exact moves_arg (fun _ => rfl) hf
  have hb0 : l0.length * 24 ≤ 140737488351232 := by
    have hvv := hv0
    obtain ⟨ao, cp, he, _⟩ := hvv
    rcases sh0 with ⟨_, h, _⟩ | ⟨elems, rest, x, _, hd, hel⟩
    · simp only [Value.slice.injEq] at he; omega
    · have := sized_slice hsz (j := 0) (t := 32) (e := 99) (elems := elems) (spare := rest) rfl (by rw [hd]; rfl) Try.underlying32
      rw [show Try.prog.bytesOf 99 = 24 from by as_aux_lemma => kernel_rfl] at this
      unfold reachBytes at this
      omega
  have cp0 : len0 ≤ cap0 := by obtain ⟨fuel, hf⟩ := k0; exact slice_caps Try.underlying32 hf
  have sv0 : Value.slice a0 len0 cap0 = .slice none 0 0 ∨ ∃ x n c, Value.slice a0 len0 cap0 = .slice (some x) n c ∧ n ≤ c := by
    rcases sh0 with ⟨rfl, rfl, rfl⟩ | ⟨_, _, x, rfl, _⟩
    · exact .inl rfl
    · exact .inr ⟨x, _, _, rfl, cp0⟩
  obtain ⟨a1, len1, cap1, rfl⟩ := okWide_slice Try.underlying86 (hval 1 86 v1 rfl rfl)
  have k1 := h1
  have lt1 : ∀ x ∈ p1, x.block < W.heap.size := by obtain ⟨m, hm⟩ := k1; exact DataW.trod_lt m _ _ _ hm
  obtain ⟨l1, hv1, sh1⟩ : ∃ l, IntSl .u8 W (.slice a1 len1 cap1) l ∧ ((a1 = none ∧ len1 = 0 ∧ cap1 = 0) ∨ ∃ elems rest x, a1 = some x ∧ d1 = DataW.slice elems rest ∧ elems.length = l.length) := by
    obtain ⟨fuel, hf⟩ := h1
    exact ints_arg Try.underlying86 Try.underlying5 cells5 (fun _ => rfl) hf
  have hb1 : l1.length * 1 ≤ 140737488351232 := by
    have hvv := hv1
    obtain ⟨ao, cp, he, _⟩ := hvv
    rcases sh1 with ⟨_, h, _⟩ | ⟨elems, rest, x, _, hd, hel⟩
    · simp only [Value.slice.injEq] at he; omega
    · have := sized_slice hsz (j := 1) (t := 86) (e := 5) (elems := elems) (spare := rest) rfl (by rw [hd]; rfl) Try.underlying86
      rw [show Try.prog.bytesOf 5 = 1 from by as_aux_lemma => kernel_rfl] at this
      unfold reachBytes at this
      omega
  have cp1 : len1 ≤ cap1 := by obtain ⟨fuel, hf⟩ := k1; exact slice_caps Try.underlying86 hf
  have sv1 : Value.slice a1 len1 cap1 = .slice none 0 0 ∨ ∃ x n c, Value.slice a1 len1 cap1 = .slice (some x) n c ∧ n ≤ c := by
    rcases sh1 with ⟨rfl, rfl, rfl⟩ | ⟨_, _, x, rfl, _⟩
    · exact .inl rfl
    · exact .inr ⟨x, _, _, rfl, cp1⟩
  clear hA0 hval0
  refine (walk W _ l0 _ l1 hv0 sv0 hb0 hv1 sv1 hb1).mono fun e W' ⟨he, bel⟩ => ?_
  subst he
  exact ⟨_, rfl, _, _, _, [], _, [], hW', trodAll_mk1 (shut_bool Try.underlying4 _), (trodAll_cons_mk (Below.trod laidOut (by as_aux_lemma => kernel_rfl) (of_decide_eq_true (by as_aux_lemma => kernel_rfl)) k0 bel lt0) (trodAll_cons_mk (Below.trod laidOut (by as_aux_lemma => kernel_rfl) (of_decide_eq_true (by as_aux_lemma => kernel_rfl)) k1 bel lt1) trodAll_mk0)), rfl, bel.frame _, fun h => by cases h⟩

theorem slogBytes_c0 : (fun (P : Program) (f : FuncId) (fn : Func) (s : ChangeSpec) (c : OpenClaim) => (c.wf (OpenSpec.ofChange s) : Bool)) Try.prog 22 Try.f22 Rows.slogBytesSpec Rows.slogBytesRow = true := by kernel_rfl
theorem slogBytes_c3 : (fun (P : Program) (f : FuncId) (fn : Func) (s : ChangeSpec) (c : OpenClaim) => (fn.params.all (P.readableRec ·) : Bool)) Try.prog 22 Try.f22 Rows.slogBytesSpec Rows.slogBytesRow = true := by kernel_rfl
theorem slogBytes_c4 : (fun (P : Program) (f : FuncId) (fn : Func) (s : ChangeSpec) (c : OpenClaim) => (namedTie P c.named s.vars : Bool)) Try.prog 22 Try.f22 Rows.slogBytesSpec Rows.slogBytesRow = true := by kernel_rfl
theorem slogBytes_c5 : (fun (P : Program) (f : FuncId) (fn : Func) (s : ChangeSpec) (c : OpenClaim) => ((c.stops == []) : Bool)) Try.prog 22 Try.f22 Rows.slogBytesSpec Rows.slogBytesRow = true := by kernel_rfl
theorem slogBytes_c7 : (fun (P : Program) (f : FuncId) (fn : Func) (s : ChangeSpec) (c : OpenClaim) => ((c.knobs == []) : Bool)) Try.prog 22 Try.f22 Rows.slogBytesSpec Rows.slogBytesRow = true := by kernel_rfl
theorem slogBytes_c9 : (fun (P : Program) (f : FuncId) (fn : Func) (s : ChangeSpec) (c : OpenClaim) => ((c.inPlace == P.inPlace f) : Bool)) Try.prog 22 Try.f22 Rows.slogBytesSpec Rows.slogBytesRow = true := by kernel_rfl
theorem slogBytes_c10 : (fun (P : Program) (f : FuncId) (fn : Func) (s : ChangeSpec) (c : OpenClaim) => ((c.unfollowed == P.unfollowed f) : Bool)) Try.prog 22 Try.f22 Rows.slogBytesSpec Rows.slogBytesRow = true := by kernel_rfl
theorem slogBytes_c11 : (fun (P : Program) (f : FuncId) (fn : Func) (s : ChangeSpec) (c : OpenClaim) => ((c.recurses == P.recurses f) : Bool)) Try.prog 22 Try.f22 Rows.slogBytesSpec Rows.slogBytesRow = true := by kernel_rfl
theorem slogBytes_c12 : (fun (P : Program) (f : FuncId) (fn : Func) (s : ChangeSpec) (c : OpenClaim) => ((c.named == P.varsNamed f) : Bool)) Try.prog 22 Try.f22 Rows.slogBytesSpec Rows.slogBytesRow = true := by kernel_rfl
theorem slogBytes_c13 : (fun (P : Program) (f : FuncId) (fn : Func) (s : ChangeSpec) (c : OpenClaim) => ((c.maps == (fn.params.toList ++ s.plain.varTypes P).any (P.mapsRec ·)) : Bool)) Try.prog 22 Try.f22 Rows.slogBytesSpec Rows.slogBytesRow = true := by kernel_rfl
theorem slogBytes_c14 : (fun (P : Program) (f : FuncId) (fn : Func) (s : ChangeSpec) (c : OpenClaim) => ((c.ifaces == (fn.params.toList ++ s.plain.varTypes P).any (P.ifacesRec ·)) : Bool)) Try.prog 22 Try.f22 Rows.slogBytesSpec Rows.slogBytesRow = true := by kernel_rfl
theorem slogBytes_c15 : (fun (P : Program) (f : FuncId) (fn : Func) (s : ChangeSpec) (c : OpenClaim) => ((c.mapsOut == P.mapsAmong fn.resultTypes.toList) : Bool)) Try.prog 22 Try.f22 Rows.slogBytesSpec Rows.slogBytesRow = true := by kernel_rfl
theorem slogBytes_c16 : (fun (P : Program) (f : FuncId) (fn : Func) (s : ChangeSpec) (c : OpenClaim) => ((c.loops == (fn.params.toList ++ s.plain.varTypes P).any (P.loopsFrom ·)) : Bool)) Try.prog 22 Try.f22 Rows.slogBytesSpec Rows.slogBytesRow = true := by kernel_rfl
theorem slogBytes_c17 : (fun (P : Program) (f : FuncId) (fn : Func) (s : ChangeSpec) (c : OpenClaim) => ((c.wideKeys == (fn.params.toList ++ s.plain.varTypes P ++ fn.resultTypes.toList).any (P.wideKeysFrom ·)) : Bool)) Try.prog 22 Try.f22 Rows.slogBytesSpec Rows.slogBytesRow = true := by kernel_rfl
theorem slogBytes_c18 : (fun (P : Program) (f : FuncId) (fn : Func) (s : ChangeSpec) (c : OpenClaim) => (s.vars.all (P.varReadable ·) : Bool)) Try.prog 22 Try.f22 Rows.slogBytesSpec Rows.slogBytesRow = true := by kernel_rfl
theorem slogBytes_c19 : (fun (P : Program) (f : FuncId) (fn : Func) (s : ChangeSpec) (c : OpenClaim) => (fn.resultTypes.all (fun t => P.readableRec t && decide (t < P.types.size)) : Bool)) Try.prog 22 Try.f22 Rows.slogBytesSpec Rows.slogBytesRow = true := by kernel_rfl
theorem slogBytes_c20 : (fun (P : Program) (f : FuncId) (fn : Func) (s : ChangeSpec) (c : OpenClaim) => ((c.ifacesOut == fn.resultTypes.toList.any (P.ifacesRec ·)) : Bool)) Try.prog 22 Try.f22 Rows.slogBytesSpec Rows.slogBytesRow = true := by kernel_rfl
theorem slogBytes_c21 : (fun (P : Program) (f : FuncId) (fn : Func) (s : ChangeSpec) (c : OpenClaim) => ((c.loopsOut == fn.resultTypes.toList.any (P.loopsFrom ·)) : Bool)) Try.prog 22 Try.f22 Rows.slogBytesSpec Rows.slogBytesRow = true := by kernel_rfl
theorem slogBytes_c22 : (fun (P : Program) (f : FuncId) (fn : Func) (s : ChangeSpec) (c : OpenClaim) => ((c.plainKeys == P.plainKeys) : Bool)) Try.prog 22 Try.f22 Rows.slogBytesSpec Rows.slogBytesRow = true := by kernel_rfl
theorem slogBytes_c23 : (fun (P : Program) (f : FuncId) (fn : Func) (s : ChangeSpec) (c : OpenClaim) => (c.shortTexts.isNone : Bool)) Try.prog 22 Try.f22 Rows.slogBytesSpec Rows.slogBytesRow = true := by kernel_rfl
theorem slogBytes_c28 : (fun (P : Program) (f : FuncId) (fn : Func) (s : ChangeSpec) (c : OpenClaim) => ((c.kinds == (if c.domain.isEmpty then [] else fn.params.toList.map fun t => match P.underlying t with | some (.int k) => some k | _ => none)) : Bool)) Try.prog 22 Try.f22 Rows.slogBytesSpec Rows.slogBytesRow = true := by kernel_rfl
theorem slogBytes_c29 : (fun (P : Program) (f : FuncId) (fn : Func) (s : ChangeSpec) (c : OpenClaim) => ((c.pinned == c.pinnedBy) : Bool)) Try.prog 22 Try.f22 Rows.slogBytesSpec Rows.slogBytesRow = true := by kernel_rfl
theorem slogBytes_c30 : (fun (P : Program) (f : FuncId) (fn : Func) (s : ChangeSpec) (c : OpenClaim) => ((c.veiled == (fn.params.toList ++ s.plain.varTypes P ++ fn.resultTypes.toList).any (P.veiledRec ·)) : Bool)) Try.prog 22 Try.f22 Rows.slogBytesSpec Rows.slogBytesRow = true := by kernel_rfl
theorem slogBytes_c31 : (fun (P : Program) (f : FuncId) (fn : Func) (s : ChangeSpec) (c : OpenClaim) => (c.veiledFits P fn.params.toList (fn.params.toList ++ s.plain.varTypes P ++ fn.resultTypes.toList) : Bool)) Try.prog 22 Try.f22 Rows.slogBytesSpec Rows.slogBytesRow = true := by kernel_rfl

set_option maxRecDepth 100000 in
theorem slogBytes_closed : joinedFacts Try.prog 22 Try.f22 Rows.slogBytesSpec Rows.slogBytesRow = true := (and_mk (and_mk (and_mk (and_mk (and_mk (and_mk (and_mk (and_mk (and_mk (and_mk (and_mk (and_mk (and_mk (and_mk (and_mk (and_mk (and_mk (and_mk (and_mk (and_mk (and_mk (and_mk (and_mk (and_mk (and_mk (and_mk (and_mk (and_mk (and_mk (and_mk (and_mk slogBytes_c0 laidOut) pmRowed) slogBytes_c3) slogBytes_c4) slogBytes_c5) pmStops) slogBytes_c7) pmKnobs) slogBytes_c9) slogBytes_c10) slogBytes_c11) slogBytes_c12) slogBytes_c13) slogBytes_c14) slogBytes_c15) slogBytes_c16) slogBytes_c17) slogBytes_c18) slogBytes_c19) slogBytes_c20) slogBytes_c21) slogBytes_c22) slogBytes_c23) pmHeard) pmEnter) (by show (false == Try.prog.liftsFinal) = true; rw [pmLifts]; rfl)) pmMake) slogBytes_c28) slogBytes_c29) slogBytes_c30) slogBytes_c31)

theorem slogBytes_of (walk : SlogBytesWalk) : Rows.SlogBytesSaid :=
  OpenClaim.holds_of_wide 22 Try.f22 rfl rfl rfl rfl rfl rfl rfl ⟨rfl, rfl, rfl, rfl, rfl⟩ rfl rfl rfl rfl rfl (by as_aux_lemma => kernel_rfl) Try.func22 slogBytes_closed
    (of_decide_eq_true (by kernel_rfl)) (by unfold Func.isWrapper; first | (rw [if_pos (by decide +kernel)]; kernel_rfl) | (rw [if_neg (by decide +kernel)]; exact ⟨rfl, rfl⟩))
    (fun os started H enc _ => slogBytes_lifted walk os started H enc)

end Go.Proofs.Ytaeklmnleampcaa
