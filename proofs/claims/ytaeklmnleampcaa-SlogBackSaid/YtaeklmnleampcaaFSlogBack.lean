/- The frame of the statement SlogBack: what its walk owes, and that this is enough. -/
import Derived.Test.YtaeklmnleampcaaClosed
import Derived.Test.YtaeklmnleampcaaFrame2
namespace Go.Proofs.Ytaeklmnleampcaa
open Go.RowKit Go.ChangeShapes Go.WideShapes Go.ChangeAt
set_option linter.unusedVariables false

/-- What the walk of SlogBack owes. -/
def SlogBackWalk : Prop := ∀ (w : World) (v0 : Value) (l0 : List (Int × Int)) (v1 : Value) (l1 : List (Int × Int)) (v2 : Value) (l2 : List (Bool × Int × Int)), SpanSl w v0 l0 → (v0 = .slice none 0 0 ∨ ∃ x n c, v0 = .slice (some x) n c) → l0.length * 16 ≤ 140737488351232 → SpanSl w v1 l1 → (v1 = .slice none 0 0 ∨ ∃ x n c, v1 = .slice (some x) n c) → l1.length * 16 ≤ 140737488351232 → MoveSl w v2 l2 → (v2 = .slice none 0 0 ∨ ∃ x n c, v2 = .slice (some x) n c) → l2.length * 24 ≤ 140737488351232 → Calls Try.prog 23 #[v0, v1, v2] w fun e w' => e = .returned (.bool true) ∧ Below w.heap.size w w'

set_option maxRecDepth 100000 in
theorem slogBack_lifted (walk : SlogBackWalk) (os : Os) (started : os.Started) (H : Type) (enc : TypeId × Value → H) :
    ReturnsInHanded {} Try.checked os 23 .any (Rows.slogBackSpec.pre6 enc Try.prog Try.f23 Rows.slogBackRow.domain false) (Rows.slogBackSpec.post enc Try.prog Try.f23 false true false false) := by
  refine returnsInHanded_of_change_sized (C := Try.checked) own started (by as_aux_lemma => kernel_rfl) Try.func23
    (ChangeSpec.witness6 (enc := enc) (C := Try.checked) false ⟨#[], #[.slice none 0 0, .slice none 0 0, .slice none 0 0], []⟩ 8 (by as_aux_lemma => kernel_rfl) (by as_aux_lemma => kernel_rfl) (by as_aux_lemma => kernel_rfl) (by as_aux_lemma => kernel_rfl)) ?_
  intro W base args ds gs before hval0 hW hcnd hsz0 _
  have hsz : (DataW.weightsEach Try.prog (Try.f23.params.toList ++ Rows.slogBackSpec.plain.varTypes Try.prog) (ds ++ gs)).all (· ≤ reachBytes) = true := hsz0
  clear hsz0
  have hval : ∀ (j : Nat) t v, Try.f23.params[j]? = some t → args[j]? = some v → Value.okWide Try.prog W .any base t v := hval0
  have hW' := hW
  obtain ⟨p, q, hA0, hV, rfl, hfz, hnd⟩ := hW
  have hA : DataW.TrodAll enc Try.prog W 0 (fun _ => true) true Try.f23.params.toList args.toList ds p := hA0
  rw [Try.params23] at hA hval hsz
  obtain ⟨v0, vs0, d0, ds0, p0, q0, hargs, rfl, rfl, h0, r0⟩ := trodAll_cons hA
  obtain ⟨v1, vs1, d1, ds1, p1, q1, rfl, rfl, rfl, h1, r1⟩ := trodAll_cons r0
  obtain ⟨v2, vs2, d2, ds2, p2, q2, rfl, rfl, rfl, h2, r2⟩ := trodAll_cons r1
  obtain ⟨rfl, rfl, rfl⟩ := trodAll_nil r2
  obtain rfl : args = #[v0, v1, v2] := by cases args; simp_all
  obtain ⟨rfl, rfl⟩ := trodVars_none hV
  obtain ⟨a0, len0, cap0, rfl⟩ := okWide_slice Try.underlying22 (hval 0 22 v0 rfl rfl)
  have k0 := h0
  have lt0 : ∀ x ∈ p0, x.block < W.heap.size := by obtain ⟨m, hm⟩ := k0; exact DataW.trod_lt m _ _ _ hm
  obtain ⟨l0, hv0, sh0⟩ : ∃ l, SpanSl W (.slice a0 len0 cap0) l ∧ ((a0 = none ∧ len0 = 0 ∧ cap0 = 0) ∨ ∃ elems rest x, a0 = some x ∧ d0 = DataW.slice elems rest ∧ elems.length = l.length) := by
    obtain ⟨fuel, hf⟩ := h0
    exact spans_arg (fun _ => rfl) hf
  have hb0 : l0.length * 16 ≤ 140737488351232 := by
    have hvv := hv0
    obtain ⟨ao, cp, he, _⟩ := hvv
    rcases sh0 with ⟨_, h, _⟩ | ⟨elems, rest, x, _, hd, hel⟩
    · simp only [Value.slice.injEq] at he; omega
    · have := sized_slice hsz (j := 0) (t := 22) (e := 51) (elems := elems) (spare := rest) rfl (by rw [hd]; rfl) Try.underlying22
      rw [show Try.prog.bytesOf 51 = 16 from by as_aux_lemma => kernel_rfl] at this
      unfold reachBytes at this
      omega
  have sv0 : Value.slice a0 len0 cap0 = .slice none 0 0 ∨ ∃ x n c, Value.slice a0 len0 cap0 = .slice (some x) n c := by
    rcases sh0 with ⟨rfl, rfl, rfl⟩ | ⟨_, _, x, rfl, _⟩
    · exact .inl rfl
    · exact .inr ⟨x, _, _, rfl⟩
  obtain ⟨a1, len1, cap1, rfl⟩ := okWide_slice Try.underlying22 (hval 1 22 v1 rfl rfl)
  have k1 := h1
  have lt1 : ∀ x ∈ p1, x.block < W.heap.size := by obtain ⟨m, hm⟩ := k1; exact DataW.trod_lt m _ _ _ hm
  obtain ⟨l1, hv1, sh1⟩ : ∃ l, SpanSl W (.slice a1 len1 cap1) l ∧ ((a1 = none ∧ len1 = 0 ∧ cap1 = 0) ∨ ∃ elems rest x, a1 = some x ∧ d1 = DataW.slice elems rest ∧ elems.length = l.length) := by
    obtain ⟨fuel, hf⟩ := h1
    exact spans_arg (fun _ => rfl) hf
  have hb1 : l1.length * 16 ≤ 140737488351232 := by
    have hvv := hv1
    obtain ⟨ao, cp, he, _⟩ := hvv
    rcases sh1 with ⟨_, h, _⟩ | ⟨elems, rest, x, _, hd, hel⟩
    · simp only [Value.slice.injEq] at he; omega
    · have := sized_slice hsz (j := 1) (t := 22) (e := 51) (elems := elems) (spare := rest) rfl (by rw [hd]; rfl) Try.underlying22
      rw [show Try.prog.bytesOf 51 = 16 from by as_aux_lemma => kernel_rfl] at this
      unfold reachBytes at this
      omega
  have sv1 : Value.slice a1 len1 cap1 = .slice none 0 0 ∨ ∃ x n c, Value.slice a1 len1 cap1 = .slice (some x) n c := by
    rcases sh1 with ⟨rfl, rfl, rfl⟩ | ⟨_, _, x, rfl, _⟩
    · exact .inl rfl
    · exact .inr ⟨x, _, _, rfl⟩
  obtain ⟨a2, len2, cap2, rfl⟩ := okWide_slice Try.underlying32 (hval 2 32 v2 rfl rfl)
  have k2 := h2
  have lt2 : ∀ x ∈ p2, x.block < W.heap.size := by obtain ⟨m, hm⟩ := k2; exact DataW.trod_lt m _ _ _ hm
  obtain ⟨l2, hv2, sh2⟩ : ∃ l, MoveSl W (.slice a2 len2 cap2) l ∧ ((a2 = none ∧ len2 = 0 ∧ cap2 = 0) ∨ ∃ elems rest x, a2 = some x ∧ d2 = DataW.slice elems rest ∧ elems.length = l.length) := by
    obtain ⟨fuel, hf⟩ := h2
    exact moves_arg (fun _ => rfl) hf
  have hb2 : l2.length * 24 ≤ 140737488351232 := by
    have hvv := hv2
    obtain ⟨ao, cp, he, _⟩ := hvv
    rcases sh2 with ⟨_, h, _⟩ | ⟨elems, rest, x, _, hd, hel⟩
    · simp only [Value.slice.injEq] at he; omega
    · have := sized_slice hsz (j := 2) (t := 32) (e := 99) (elems := elems) (spare := rest) rfl (by rw [hd]; rfl) Try.underlying32
      rw [show Try.prog.bytesOf 99 = 24 from by as_aux_lemma => kernel_rfl] at this
      unfold reachBytes at this
      omega
  have sv2 : Value.slice a2 len2 cap2 = .slice none 0 0 ∨ ∃ x n c, Value.slice a2 len2 cap2 = .slice (some x) n c := by
    rcases sh2 with ⟨rfl, rfl, rfl⟩ | ⟨_, _, x, rfl, _⟩
    · exact .inl rfl
    · exact .inr ⟨x, _, _, rfl⟩
  clear hA0 hval0
  refine (walk W _ l0 _ l1 _ l2 hv0 sv0 hb0 hv1 sv1 hb1 hv2 sv2 hb2).mono fun e W' ⟨he, bel⟩ => ?_
  subst he
  exact ⟨_, rfl, _, _, _, [], _, [], hW', trodAll_mk1 (shut_bool Try.underlying4 _), (trodAll_cons_mk (Below.trod laidOut (by as_aux_lemma => kernel_rfl) (of_decide_eq_true (by as_aux_lemma => kernel_rfl)) k0 bel lt0) (trodAll_cons_mk (Below.trod laidOut (by as_aux_lemma => kernel_rfl) (of_decide_eq_true (by as_aux_lemma => kernel_rfl)) k1 bel lt1) (trodAll_cons_mk (Below.trod laidOut (by as_aux_lemma => kernel_rfl) (of_decide_eq_true (by as_aux_lemma => kernel_rfl)) k2 bel lt2) trodAll_mk0))), rfl, bel.frame _, fun h => by cases h⟩

theorem slogBack_c0 : (fun (P : Program) (f : FuncId) (fn : Func) (s : ChangeSpec) (c : OpenClaim) => (c.wf (OpenSpec.ofChange s) : Bool)) Try.prog 23 Try.f23 Rows.slogBackSpec Rows.slogBackRow = true := by kernel_rfl
theorem slogBack_c3 : (fun (P : Program) (f : FuncId) (fn : Func) (s : ChangeSpec) (c : OpenClaim) => (fn.params.all (P.readableRec ·) : Bool)) Try.prog 23 Try.f23 Rows.slogBackSpec Rows.slogBackRow = true := by kernel_rfl
theorem slogBack_c4 : (fun (P : Program) (f : FuncId) (fn : Func) (s : ChangeSpec) (c : OpenClaim) => (namedTie P c.named s.vars : Bool)) Try.prog 23 Try.f23 Rows.slogBackSpec Rows.slogBackRow = true := by kernel_rfl
theorem slogBack_c5 : (fun (P : Program) (f : FuncId) (fn : Func) (s : ChangeSpec) (c : OpenClaim) => ((c.stops == []) : Bool)) Try.prog 23 Try.f23 Rows.slogBackSpec Rows.slogBackRow = true := by kernel_rfl
theorem slogBack_c7 : (fun (P : Program) (f : FuncId) (fn : Func) (s : ChangeSpec) (c : OpenClaim) => ((c.knobs == []) : Bool)) Try.prog 23 Try.f23 Rows.slogBackSpec Rows.slogBackRow = true := by kernel_rfl
theorem slogBack_c9 : (fun (P : Program) (f : FuncId) (fn : Func) (s : ChangeSpec) (c : OpenClaim) => ((c.inPlace == P.inPlace f) : Bool)) Try.prog 23 Try.f23 Rows.slogBackSpec Rows.slogBackRow = true := by kernel_rfl
theorem slogBack_c10 : (fun (P : Program) (f : FuncId) (fn : Func) (s : ChangeSpec) (c : OpenClaim) => ((c.unfollowed == P.unfollowed f) : Bool)) Try.prog 23 Try.f23 Rows.slogBackSpec Rows.slogBackRow = true := by kernel_rfl
theorem slogBack_c11 : (fun (P : Program) (f : FuncId) (fn : Func) (s : ChangeSpec) (c : OpenClaim) => ((c.recurses == P.recurses f) : Bool)) Try.prog 23 Try.f23 Rows.slogBackSpec Rows.slogBackRow = true := by kernel_rfl
theorem slogBack_c12 : (fun (P : Program) (f : FuncId) (fn : Func) (s : ChangeSpec) (c : OpenClaim) => ((c.named == P.varsNamed f) : Bool)) Try.prog 23 Try.f23 Rows.slogBackSpec Rows.slogBackRow = true := by kernel_rfl
theorem slogBack_c13 : (fun (P : Program) (f : FuncId) (fn : Func) (s : ChangeSpec) (c : OpenClaim) => ((c.maps == (fn.params.toList ++ s.plain.varTypes P).any (P.mapsRec ·)) : Bool)) Try.prog 23 Try.f23 Rows.slogBackSpec Rows.slogBackRow = true := by kernel_rfl
theorem slogBack_c14 : (fun (P : Program) (f : FuncId) (fn : Func) (s : ChangeSpec) (c : OpenClaim) => ((c.ifaces == (fn.params.toList ++ s.plain.varTypes P).any (P.ifacesRec ·)) : Bool)) Try.prog 23 Try.f23 Rows.slogBackSpec Rows.slogBackRow = true := by kernel_rfl
theorem slogBack_c15 : (fun (P : Program) (f : FuncId) (fn : Func) (s : ChangeSpec) (c : OpenClaim) => ((c.mapsOut == P.mapsAmong fn.resultTypes.toList) : Bool)) Try.prog 23 Try.f23 Rows.slogBackSpec Rows.slogBackRow = true := by kernel_rfl
theorem slogBack_c16 : (fun (P : Program) (f : FuncId) (fn : Func) (s : ChangeSpec) (c : OpenClaim) => ((c.loops == (fn.params.toList ++ s.plain.varTypes P).any (P.loopsFrom ·)) : Bool)) Try.prog 23 Try.f23 Rows.slogBackSpec Rows.slogBackRow = true := by kernel_rfl
theorem slogBack_c17 : (fun (P : Program) (f : FuncId) (fn : Func) (s : ChangeSpec) (c : OpenClaim) => ((c.wideKeys == (fn.params.toList ++ s.plain.varTypes P ++ fn.resultTypes.toList).any (P.wideKeysFrom ·)) : Bool)) Try.prog 23 Try.f23 Rows.slogBackSpec Rows.slogBackRow = true := by kernel_rfl
theorem slogBack_c18 : (fun (P : Program) (f : FuncId) (fn : Func) (s : ChangeSpec) (c : OpenClaim) => (s.vars.all (P.varReadable ·) : Bool)) Try.prog 23 Try.f23 Rows.slogBackSpec Rows.slogBackRow = true := by kernel_rfl
theorem slogBack_c19 : (fun (P : Program) (f : FuncId) (fn : Func) (s : ChangeSpec) (c : OpenClaim) => (fn.resultTypes.all (fun t => P.readableRec t && decide (t < P.types.size)) : Bool)) Try.prog 23 Try.f23 Rows.slogBackSpec Rows.slogBackRow = true := by kernel_rfl
theorem slogBack_c20 : (fun (P : Program) (f : FuncId) (fn : Func) (s : ChangeSpec) (c : OpenClaim) => ((c.ifacesOut == fn.resultTypes.toList.any (P.ifacesRec ·)) : Bool)) Try.prog 23 Try.f23 Rows.slogBackSpec Rows.slogBackRow = true := by kernel_rfl
theorem slogBack_c21 : (fun (P : Program) (f : FuncId) (fn : Func) (s : ChangeSpec) (c : OpenClaim) => ((c.loopsOut == fn.resultTypes.toList.any (P.loopsFrom ·)) : Bool)) Try.prog 23 Try.f23 Rows.slogBackSpec Rows.slogBackRow = true := by kernel_rfl
theorem slogBack_c22 : (fun (P : Program) (f : FuncId) (fn : Func) (s : ChangeSpec) (c : OpenClaim) => ((c.plainKeys == P.plainKeys) : Bool)) Try.prog 23 Try.f23 Rows.slogBackSpec Rows.slogBackRow = true := by kernel_rfl
theorem slogBack_c23 : (fun (P : Program) (f : FuncId) (fn : Func) (s : ChangeSpec) (c : OpenClaim) => (c.shortTexts.isNone : Bool)) Try.prog 23 Try.f23 Rows.slogBackSpec Rows.slogBackRow = true := by kernel_rfl
theorem slogBack_c28 : (fun (P : Program) (f : FuncId) (fn : Func) (s : ChangeSpec) (c : OpenClaim) => ((c.kinds == (if c.domain.isEmpty then [] else fn.params.toList.map fun t => match P.underlying t with | some (.int k) => some k | _ => none)) : Bool)) Try.prog 23 Try.f23 Rows.slogBackSpec Rows.slogBackRow = true := by kernel_rfl
theorem slogBack_c29 : (fun (P : Program) (f : FuncId) (fn : Func) (s : ChangeSpec) (c : OpenClaim) => ((c.pinned == c.pinnedBy) : Bool)) Try.prog 23 Try.f23 Rows.slogBackSpec Rows.slogBackRow = true := by kernel_rfl
theorem slogBack_c30 : (fun (P : Program) (f : FuncId) (fn : Func) (s : ChangeSpec) (c : OpenClaim) => ((c.veiled == (fn.params.toList ++ s.plain.varTypes P ++ fn.resultTypes.toList).any (P.veiledRec ·)) : Bool)) Try.prog 23 Try.f23 Rows.slogBackSpec Rows.slogBackRow = true := by kernel_rfl
theorem slogBack_c31 : (fun (P : Program) (f : FuncId) (fn : Func) (s : ChangeSpec) (c : OpenClaim) => (c.veiledFits P fn.params.toList (fn.params.toList ++ s.plain.varTypes P ++ fn.resultTypes.toList) : Bool)) Try.prog 23 Try.f23 Rows.slogBackSpec Rows.slogBackRow = true := by kernel_rfl

set_option maxRecDepth 100000 in
theorem slogBack_closed : joinedFacts Try.prog 23 Try.f23 Rows.slogBackSpec Rows.slogBackRow = true := (and_mk (and_mk (and_mk (and_mk (and_mk (and_mk (and_mk (and_mk (and_mk (and_mk (and_mk (and_mk (and_mk (and_mk (and_mk (and_mk (and_mk (and_mk (and_mk (and_mk (and_mk (and_mk (and_mk (and_mk (and_mk (and_mk (and_mk (and_mk (and_mk (and_mk (and_mk slogBack_c0 laidOut) pmRowed) slogBack_c3) slogBack_c4) slogBack_c5) pmStops) slogBack_c7) pmKnobs) slogBack_c9) slogBack_c10) slogBack_c11) slogBack_c12) slogBack_c13) slogBack_c14) slogBack_c15) slogBack_c16) slogBack_c17) slogBack_c18) slogBack_c19) slogBack_c20) slogBack_c21) slogBack_c22) slogBack_c23) pmHeard) pmEnter) (by show (false == Try.prog.liftsFinal) = true; rw [pmLifts]; rfl)) pmMake) slogBack_c28) slogBack_c29) slogBack_c30) slogBack_c31)

theorem slogBack_of (walk : SlogBackWalk) : Rows.SlogBackSaid :=
  OpenClaim.holds_of_wide 23 Try.f23 rfl rfl rfl rfl rfl rfl rfl ⟨rfl, rfl, rfl, rfl, rfl⟩ rfl rfl rfl rfl rfl (by as_aux_lemma => kernel_rfl) Try.func23 slogBack_closed
    (of_decide_eq_true (by kernel_rfl)) (by unfold Func.isWrapper; first | (rw [if_pos (by decide +kernel)]; kernel_rfl) | (rw [if_neg (by decide +kernel)]; exact ⟨rfl, rfl⟩))
    (fun os started H enc _ => slogBack_lifted walk os started H enc)

end Go.Proofs.Ytaeklmnleampcaa
