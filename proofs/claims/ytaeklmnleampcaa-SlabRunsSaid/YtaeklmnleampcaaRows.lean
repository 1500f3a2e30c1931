/-
  No cell of these rows narrows 'for every input' (looked for: loops, veiled, ifaces, maps, wideKeys, modest, calm, conditions, laid).
  DERIVED. THE GIVEN ROWS OF THIS SEAT. 21 by the template 'for every input the law returns true; each argument reads behind the call as it read before'; 0 by the template 'total and deterministic' (their statements: YtaeklmnleampcaaTotals.lean).
  GIVEN WITH THE SEED: the statements are not yours to turn. If you find one false, say at which input.
  Laid BY PROGRAM, IN A SANDBOX (cutbox-rows.mjs): the forced cells as the released guide's own fill.sh prints them over the translation 0c30a4fe6373bd9c… (all of the seat's roots in one cut). By AI agents, Wed Nov 11 2026. No macro, syntax, notation, axiom, sorry.
-/
import Derived.Test.YtaeklmnleampcaaChecked
import GoSem.Claim
import GoSem.ClaimJoined
import GoSem.ClaimMapViews
import Derived.JoinedTies
import Derived.KernelRfl
namespace Go.Proofs.Ytaeklmnleampcaa
/- THE CELL 'sum', in the pinned program and in every row, IS THE sha256 OF THE DUMP (.gsa) THAT YtaeklmnleampcaaProg.lean LOADS. Nothing in Lean hashes anything: it is a label: what it is worth is what the hold of that sum in a sandbox is worth. -/
noncomputable def Try.pinned : Pinned := { name := "ytaeklmnleampcaa", sum := "0c30a4fe6373bd9c6fda46cb09ba1325b9c1f46be09c657b10a931ae7e817e3c", checked := Try.checked }
namespace Rows
def none {H : Type} : Left H := { results := [], args := [] }

/-- 'aquiferlaw01.SpanRights': WHATEVER THE INPUT: true; the input reads as it did. -/
def spanRightsSpec : ChangeSpec := { name := "spanRights", fn := fun _ => fun
  | [d1, d2] => { results := [.lit (.bool true)], args := [d1, d2] }
  | _ => none }
def spanRightsRow : OpenClaim := { program := "ytaeklmnleampcaa", sum := "0c30a4fe6373bd9c6fda46cb09ba1325b9c1f46be09c657b10a931ae7e817e3c", func := "aquifer/aquiferlaw01.SpanRights", spec := "spanRights", apart := false }
def SpanRightsSaid : Prop := spanRightsRow.holds Try.pinned (OpenSpec.ofChange spanRightsSpec)

/-- ITS FALSE NEIGHBOUR: 'it returns false'. Refute it at one input. -/
def spanRightsWrong : ChangeSpec := { name := "spanRights", fn := fun _ => fun
  | [d1, d2] => { results := [.lit (.bool false)], args := [d1, d2] }
  | _ => none }
def SpanRightsWrongFalsely : Prop := spanRightsRow.holds Try.pinned (OpenSpec.ofChange spanRightsWrong)

/-- 'aquiferlaw08.SlogDiffs': WHATEVER THE INPUT: true; the input reads as it did. -/
def slogDiffsSpec : ChangeSpec := { name := "slogDiffs", fn := fun _ => fun
  | [d1, d2] => { results := [.lit (.bool true)], args := [d1, d2] }
  | _ => none }
def slogDiffsRow : OpenClaim := { program := "ytaeklmnleampcaa", sum := "0c30a4fe6373bd9c6fda46cb09ba1325b9c1f46be09c657b10a931ae7e817e3c", func := "aquifer/aquiferlaw08.SlogDiffs", spec := "slogDiffs", unfollowed := true, recurses := true, apart := false }
def SlogDiffsSaid : Prop := slogDiffsRow.holds Try.pinned (OpenSpec.ofChange slogDiffsSpec)

/-- ITS FALSE NEIGHBOUR: 'it returns false'. Refute it at one input. -/
def slogDiffsWrong : ChangeSpec := { name := "slogDiffs", fn := fun _ => fun
  | [d1, d2] => { results := [.lit (.bool false)], args := [d1, d2] }
  | _ => none }
def SlogDiffsWrongFalsely : Prop := slogDiffsRow.holds Try.pinned (OpenSpec.ofChange slogDiffsWrong)

/-- 'aquiferlaw07.SlabMost': WHATEVER THE INPUT: true; the input reads as it did. -/
def slabMostSpec : ChangeSpec := { name := "slabMost", fn := fun _ => fun
  | [d1, d2] => { results := [.lit (.bool true)], args := [d1, d2] }
  | _ => none }
def slabMostRow : OpenClaim := { program := "ytaeklmnleampcaa", sum := "0c30a4fe6373bd9c6fda46cb09ba1325b9c1f46be09c657b10a931ae7e817e3c", func := "aquifer/aquiferlaw07.SlabMost", spec := "slabMost", apart := false }
def SlabMostSaid : Prop := slabMostRow.holds Try.pinned (OpenSpec.ofChange slabMostSpec)

/-- ITS FALSE NEIGHBOUR: 'it returns false'. Refute it at one input. -/
def slabMostWrong : ChangeSpec := { name := "slabMost", fn := fun _ => fun
  | [d1, d2] => { results := [.lit (.bool false)], args := [d1, d2] }
  | _ => none }
def SlabMostWrongFalsely : Prop := slabMostRow.holds Try.pinned (OpenSpec.ofChange slabMostWrong)

/-- 'aquiferlaw01.SpanNames': WHATEVER THE INPUT: true; the input reads as it did. -/
def spanNamesSpec : ChangeSpec := { name := "spanNames", fn := fun _ => fun
  | [] => { results := [.lit (.bool true)], args := [] }
  | _ => none }
def spanNamesRow : OpenClaim := { program := "ytaeklmnleampcaa", sum := "0c30a4fe6373bd9c6fda46cb09ba1325b9c1f46be09c657b10a931ae7e817e3c", func := "aquifer/aquiferlaw01.SpanNames", spec := "spanNames", unfollowed := true, recurses := true, apart := false }
def SpanNamesSaid : Prop := spanNamesRow.holds Try.pinned (OpenSpec.ofChange spanNamesSpec)

/-- ITS FALSE NEIGHBOUR: 'it returns false'. Refute it at one input. -/
def spanNamesWrong : ChangeSpec := { name := "spanNames", fn := fun _ => fun
  | [] => { results := [.lit (.bool false)], args := [] }
  | _ => none }
def SpanNamesWrongFalsely : Prop := spanNamesRow.holds Try.pinned (OpenSpec.ofChange spanNamesWrong)

/-- 'aquiferlaw01.SpanFirsts': WHATEVER THE INPUT: true; the input reads as it did. -/
def spanFirstsSpec : ChangeSpec := { name := "spanFirsts", fn := fun _ => fun
  | [d1, d2] => { results := [.lit (.bool true)], args := [d1, d2] }
  | _ => none }
def spanFirstsRow : OpenClaim := { program := "ytaeklmnleampcaa", sum := "0c30a4fe6373bd9c6fda46cb09ba1325b9c1f46be09c657b10a931ae7e817e3c", func := "aquifer/aquiferlaw01.SpanFirsts", spec := "spanFirsts", unfollowed := true, recurses := true, apart := false }
def SpanFirstsSaid : Prop := spanFirstsRow.holds Try.pinned (OpenSpec.ofChange spanFirstsSpec)

/-- ITS FALSE NEIGHBOUR: 'it returns false'. Refute it at one input. -/
def spanFirstsWrong : ChangeSpec := { name := "spanFirsts", fn := fun _ => fun
  | [d1, d2] => { results := [.lit (.bool false)], args := [d1, d2] }
  | _ => none }
def SpanFirstsWrongFalsely : Prop := spanFirstsRow.holds Try.pinned (OpenSpec.ofChange spanFirstsWrong)

/-- 'aquiferlaw01.SpanTells': WHATEVER THE INPUT: true; the input reads as it did. -/
def spanTellsSpec : ChangeSpec := { name := "spanTells", fn := fun _ => fun
  | [d1, d2, d3] => { results := [.lit (.bool true)], args := [d1, d2, d3] }
  | _ => none }
def spanTellsRow : OpenClaim := { program := "ytaeklmnleampcaa", sum := "0c30a4fe6373bd9c6fda46cb09ba1325b9c1f46be09c657b10a931ae7e817e3c", func := "aquifer/aquiferlaw01.SpanTells", spec := "spanTells", unfollowed := true, recurses := true, apart := false }
def SpanTellsSaid : Prop := spanTellsRow.holds Try.pinned (OpenSpec.ofChange spanTellsSpec)

/-- ITS FALSE NEIGHBOUR: 'it returns false'. Refute it at one input. -/
def spanTellsWrong : ChangeSpec := { name := "spanTells", fn := fun _ => fun
  | [d1, d2, d3] => { results := [.lit (.bool false)], args := [d1, d2, d3] }
  | _ => none }
def SpanTellsWrongFalsely : Prop := spanTellsRow.holds Try.pinned (OpenSpec.ofChange spanTellsWrong)

/-- 'aquiferlaw01.SpanBack': WHATEVER THE INPUT: true; the input reads as it did. -/
def spanBackSpec : ChangeSpec := { name := "spanBack", fn := fun _ => fun
  | [d1, d2] => { results := [.lit (.bool true)], args := [d1, d2] }
  | _ => none }
def spanBackRow : OpenClaim := { program := "ytaeklmnleampcaa", sum := "0c30a4fe6373bd9c6fda46cb09ba1325b9c1f46be09c657b10a931ae7e817e3c", func := "aquifer/aquiferlaw01.SpanBack", spec := "spanBack", unfollowed := true, recurses := true, apart := false }
def SpanBackSaid : Prop := spanBackRow.holds Try.pinned (OpenSpec.ofChange spanBackSpec)

/-- ITS FALSE NEIGHBOUR: 'it returns false'. Refute it at one input. -/
def spanBackWrong : ChangeSpec := { name := "spanBack", fn := fun _ => fun
  | [d1, d2] => { results := [.lit (.bool false)], args := [d1, d2] }
  | _ => none }
def SpanBackWrongFalsely : Prop := spanBackRow.holds Try.pinned (OpenSpec.ofChange spanBackWrong)

/-- 'aquiferlaw07.SlabNames': WHATEVER THE INPUT: true; the input reads as it did. -/
def slabNamesSpec : ChangeSpec := { name := "slabNames", fn := fun _ => fun
  | [] => { results := [.lit (.bool true)], args := [] }
  | _ => none }
def slabNamesRow : OpenClaim := { program := "ytaeklmnleampcaa", sum := "0c30a4fe6373bd9c6fda46cb09ba1325b9c1f46be09c657b10a931ae7e817e3c", func := "aquifer/aquiferlaw07.SlabNames", spec := "slabNames", apart := false }
def SlabNamesSaid : Prop := slabNamesRow.holds Try.pinned (OpenSpec.ofChange slabNamesSpec)

/-- ITS FALSE NEIGHBOUR: 'it returns false'. Refute it at one input. -/
def slabNamesWrong : ChangeSpec := { name := "slabNames", fn := fun _ => fun
  | [] => { results := [.lit (.bool false)], args := [] }
  | _ => none }
def SlabNamesWrongFalsely : Prop := slabNamesRow.holds Try.pinned (OpenSpec.ofChange slabNamesWrong)

/-- 'aquiferlaw01.SpanMixes': WHATEVER THE INPUT: true; the input reads as it did. -/
def spanMixesSpec : ChangeSpec := { name := "spanMixes", fn := fun _ => fun
  | [d1, d2] => { results := [.lit (.bool true)], args := [d1, d2] }
  | _ => none }
def spanMixesRow : OpenClaim := { program := "ytaeklmnleampcaa", sum := "0c30a4fe6373bd9c6fda46cb09ba1325b9c1f46be09c657b10a931ae7e817e3c", func := "aquifer/aquiferlaw01.SpanMixes", spec := "spanMixes", unfollowed := true, recurses := true, apart := false }
def SpanMixesSaid : Prop := spanMixesRow.holds Try.pinned (OpenSpec.ofChange spanMixesSpec)

/-- ITS FALSE NEIGHBOUR: 'it returns false'. Refute it at one input. -/
def spanMixesWrong : ChangeSpec := { name := "spanMixes", fn := fun _ => fun
  | [d1, d2] => { results := [.lit (.bool false)], args := [d1, d2] }
  | _ => none }
def SpanMixesWrongFalsely : Prop := spanMixesRow.holds Try.pinned (OpenSpec.ofChange spanMixesWrong)

/-- 'aquiferlaw01.SpanTurns': WHATEVER THE INPUT: true; the input reads as it did. -/
def spanTurnsSpec : ChangeSpec := { name := "spanTurns", fn := fun _ => fun
  | [d1, d2, d3] => { results := [.lit (.bool true)], args := [d1, d2, d3] }
  | _ => none }
def spanTurnsRow : OpenClaim := { program := "ytaeklmnleampcaa", sum := "0c30a4fe6373bd9c6fda46cb09ba1325b9c1f46be09c657b10a931ae7e817e3c", func := "aquifer/aquiferlaw01.SpanTurns", spec := "spanTurns", unfollowed := true, recurses := true, apart := false }
def SpanTurnsSaid : Prop := spanTurnsRow.holds Try.pinned (OpenSpec.ofChange spanTurnsSpec)

/-- ITS FALSE NEIGHBOUR: 'it returns false'. Refute it at one input. -/
def spanTurnsWrong : ChangeSpec := { name := "spanTurns", fn := fun _ => fun
  | [d1, d2, d3] => { results := [.lit (.bool false)], args := [d1, d2, d3] }
  | _ => none }
def SpanTurnsWrongFalsely : Prop := spanTurnsRow.holds Try.pinned (OpenSpec.ofChange spanTurnsWrong)

/-- 'aquiferlaw01.SpanAdds': WHATEVER THE INPUT: true; the input reads as it did. -/
def spanAddsSpec : ChangeSpec := { name := "spanAdds", fn := fun _ => fun
  | [d1, d2] => { results := [.lit (.bool true)], args := [d1, d2] }
  | _ => none }
def spanAddsRow : OpenClaim := { program := "ytaeklmnleampcaa", sum := "0c30a4fe6373bd9c6fda46cb09ba1325b9c1f46be09c657b10a931ae7e817e3c", func := "aquifer/aquiferlaw01.SpanAdds", spec := "spanAdds", unfollowed := true, recurses := true, apart := false }
def SpanAddsSaid : Prop := spanAddsRow.holds Try.pinned (OpenSpec.ofChange spanAddsSpec)

/-- ITS FALSE NEIGHBOUR: 'it returns false'. Refute it at one input. -/
def spanAddsWrong : ChangeSpec := { name := "spanAdds", fn := fun _ => fun
  | [d1, d2] => { results := [.lit (.bool false)], args := [d1, d2] }
  | _ => none }
def SpanAddsWrongFalsely : Prop := spanAddsRow.holds Try.pinned (OpenSpec.ofChange spanAddsWrong)

/-- 'aquiferlaw07.SlabApart': WHATEVER THE INPUT: true; the input reads as it did. -/
def slabApartSpec : ChangeSpec := { name := "slabApart", fn := fun _ => fun
  | [d1, d2] => { results := [.lit (.bool true)], args := [d1, d2] }
  | _ => none }
def slabApartRow : OpenClaim := { program := "ytaeklmnleampcaa", sum := "0c30a4fe6373bd9c6fda46cb09ba1325b9c1f46be09c657b10a931ae7e817e3c", func := "aquifer/aquiferlaw07.SlabApart", spec := "slabApart", apart := false }
def SlabApartSaid : Prop := slabApartRow.holds Try.pinned (OpenSpec.ofChange slabApartSpec)

/-- ITS FALSE NEIGHBOUR: 'it returns false'. Refute it at one input. -/
def slabApartWrong : ChangeSpec := { name := "slabApart", fn := fun _ => fun
  | [d1, d2] => { results := [.lit (.bool false)], args := [d1, d2] }
  | _ => none }
def SlabApartWrongFalsely : Prop := slabApartRow.holds Try.pinned (OpenSpec.ofChange slabApartWrong)

/-- 'aquiferlaw07.SlabTurns': WHATEVER THE INPUT: true; the input reads as it did. -/
def slabTurnsSpec : ChangeSpec := { name := "slabTurns", fn := fun _ => fun
  | [d1, d2, d3] => { results := [.lit (.bool true)], args := [d1, d2, d3] }
  | _ => none }
def slabTurnsRow : OpenClaim := { program := "ytaeklmnleampcaa", sum := "0c30a4fe6373bd9c6fda46cb09ba1325b9c1f46be09c657b10a931ae7e817e3c", func := "aquifer/aquiferlaw07.SlabTurns", spec := "slabTurns", apart := false }
def SlabTurnsSaid : Prop := slabTurnsRow.holds Try.pinned (OpenSpec.ofChange slabTurnsSpec)

/-- ITS FALSE NEIGHBOUR: 'it returns false'. Refute it at one input. -/
def slabTurnsWrong : ChangeSpec := { name := "slabTurns", fn := fun _ => fun
  | [d1, d2, d3] => { results := [.lit (.bool false)], args := [d1, d2, d3] }
  | _ => none }
def SlabTurnsWrongFalsely : Prop := slabTurnsRow.holds Try.pinned (OpenSpec.ofChange slabTurnsWrong)

/-- 'aquiferlaw07.SlabFull': WHATEVER THE INPUT: true; the input reads as it did. -/
def slabFullSpec : ChangeSpec := { name := "slabFull", fn := fun _ => fun
  | [d1, d2] => { results := [.lit (.bool true)], args := [d1, d2] }
  | _ => none }
def slabFullRow : OpenClaim := { program := "ytaeklmnleampcaa", sum := "0c30a4fe6373bd9c6fda46cb09ba1325b9c1f46be09c657b10a931ae7e817e3c", func := "aquifer/aquiferlaw07.SlabFull", spec := "slabFull", apart := false }
def SlabFullSaid : Prop := slabFullRow.holds Try.pinned (OpenSpec.ofChange slabFullSpec)

/-- ITS FALSE NEIGHBOUR: 'it returns false'. Refute it at one input. -/
def slabFullWrong : ChangeSpec := { name := "slabFull", fn := fun _ => fun
  | [d1, d2] => { results := [.lit (.bool false)], args := [d1, d2] }
  | _ => none }
def SlabFullWrongFalsely : Prop := slabFullRow.holds Try.pinned (OpenSpec.ofChange slabFullWrong)

/-- 'aquiferlaw07.SlabRuns': WHATEVER THE INPUT: true; the input reads as it did. -/
def slabRunsSpec : ChangeSpec := { name := "slabRuns", fn := fun _ => fun
  | [d1, d2, d3] => { results := [.lit (.bool true)], args := [d1, d2, d3] }
  | _ => none }
def slabRunsRow : OpenClaim := { program := "ytaeklmnleampcaa", sum := "0c30a4fe6373bd9c6fda46cb09ba1325b9c1f46be09c657b10a931ae7e817e3c", func := "aquifer/aquiferlaw07.SlabRuns", spec := "slabRuns", apart := false }
def SlabRunsSaid : Prop := slabRunsRow.holds Try.pinned (OpenSpec.ofChange slabRunsSpec)

/-- ITS FALSE NEIGHBOUR: 'it returns false'. Refute it at one input. -/
def slabRunsWrong : ChangeSpec := { name := "slabRuns", fn := fun _ => fun
  | [d1, d2, d3] => { results := [.lit (.bool false)], args := [d1, d2, d3] }
  | _ => none }
def SlabRunsWrongFalsely : Prop := slabRunsRow.holds Try.pinned (OpenSpec.ofChange slabRunsWrong)

/-- 'aquiferlaw08.SlogReplays': WHATEVER THE INPUT: true; the input reads as it did. -/
def slogReplaysSpec : ChangeSpec := { name := "slogReplays", fn := fun _ => fun
  | [d1, d2] => { results := [.lit (.bool true)], args := [d1, d2] }
  | _ => none }
def slogReplaysRow : OpenClaim := { program := "ytaeklmnleampcaa", sum := "0c30a4fe6373bd9c6fda46cb09ba1325b9c1f46be09c657b10a931ae7e817e3c", func := "aquifer/aquiferlaw08.SlogReplays", spec := "slogReplays", unfollowed := true, recurses := true, apart := false }
def SlogReplaysSaid : Prop := slogReplaysRow.holds Try.pinned (OpenSpec.ofChange slogReplaysSpec)

/-- ITS FALSE NEIGHBOUR: 'it returns false'. Refute it at one input. -/
def slogReplaysWrong : ChangeSpec := { name := "slogReplays", fn := fun _ => fun
  | [d1, d2] => { results := [.lit (.bool false)], args := [d1, d2] }
  | _ => none }
def SlogReplaysWrongFalsely : Prop := slogReplaysRow.holds Try.pinned (OpenSpec.ofChange slogReplaysWrong)

/-- 'aquiferlaw08.SlogParts': WHATEVER THE INPUT: true; the input reads as it did. -/
def slogPartsSpec : ChangeSpec := { name := "slogParts", fn := fun _ => fun
  | [d1, d2, d3] => { results := [.lit (.bool true)], args := [d1, d2, d3] }
  | _ => none }
def slogPartsRow : OpenClaim := { program := "ytaeklmnleampcaa", sum := "0c30a4fe6373bd9c6fda46cb09ba1325b9c1f46be09c657b10a931ae7e817e3c", func := "aquifer/aquiferlaw08.SlogParts", spec := "slogParts", unfollowed := true, recurses := true, apart := false }
def SlogPartsSaid : Prop := slogPartsRow.holds Try.pinned (OpenSpec.ofChange slogPartsSpec)

/-- ITS FALSE NEIGHBOUR: 'it returns false'. Refute it at one input. -/
def slogPartsWrong : ChangeSpec := { name := "slogParts", fn := fun _ => fun
  | [d1, d2, d3] => { results := [.lit (.bool false)], args := [d1, d2, d3] }
  | _ => none }
def SlogPartsWrongFalsely : Prop := slogPartsRow.holds Try.pinned (OpenSpec.ofChange slogPartsWrong)

/-- 'aquiferlaw08.SlogNames': WHATEVER THE INPUT: true; the input reads as it did. -/
def slogNamesSpec : ChangeSpec := { name := "slogNames", fn := fun _ => fun
  | [] => { results := [.lit (.bool true)], args := [] }
  | _ => none }
def slogNamesRow : OpenClaim := { program := "ytaeklmnleampcaa", sum := "0c30a4fe6373bd9c6fda46cb09ba1325b9c1f46be09c657b10a931ae7e817e3c", func := "aquifer/aquiferlaw08.SlogNames", spec := "slogNames", unfollowed := true, recurses := true, apart := false }
def SlogNamesSaid : Prop := slogNamesRow.holds Try.pinned (OpenSpec.ofChange slogNamesSpec)

/-- ITS FALSE NEIGHBOUR: 'it returns false'. Refute it at one input. -/
def slogNamesWrong : ChangeSpec := { name := "slogNames", fn := fun _ => fun
  | [] => { results := [.lit (.bool false)], args := [] }
  | _ => none }
def SlogNamesWrongFalsely : Prop := slogNamesRow.holds Try.pinned (OpenSpec.ofChange slogNamesWrong)

/-- 'aquiferlaw08.SlogLeads': WHATEVER THE INPUT: true; the input reads as it did. -/
def slogLeadsSpec : ChangeSpec := { name := "slogLeads", fn := fun _ => fun
  | [d1, d2, d3] => { results := [.lit (.bool true)], args := [d1, d2, d3] }
  | _ => none }
def slogLeadsRow : OpenClaim := { program := "ytaeklmnleampcaa", sum := "0c30a4fe6373bd9c6fda46cb09ba1325b9c1f46be09c657b10a931ae7e817e3c", func := "aquifer/aquiferlaw08.SlogLeads", spec := "slogLeads", unfollowed := true, recurses := true, apart := false }
def SlogLeadsSaid : Prop := slogLeadsRow.holds Try.pinned (OpenSpec.ofChange slogLeadsSpec)

/-- ITS FALSE NEIGHBOUR: 'it returns false'. Refute it at one input. -/
def slogLeadsWrong : ChangeSpec := { name := "slogLeads", fn := fun _ => fun
  | [d1, d2, d3] => { results := [.lit (.bool false)], args := [d1, d2, d3] }
  | _ => none }
def SlogLeadsWrongFalsely : Prop := slogLeadsRow.holds Try.pinned (OpenSpec.ofChange slogLeadsWrong)

/-- 'aquiferlaw08.SlogBytes': WHATEVER THE INPUT: true; the input reads as it did. -/
def slogBytesSpec : ChangeSpec := { name := "slogBytes", fn := fun _ => fun
  | [d1, d2] => { results := [.lit (.bool true)], args := [d1, d2] }
  | _ => none }
def slogBytesRow : OpenClaim := { program := "ytaeklmnleampcaa", sum := "0c30a4fe6373bd9c6fda46cb09ba1325b9c1f46be09c657b10a931ae7e817e3c", func := "aquifer/aquiferlaw08.SlogBytes", spec := "slogBytes", unfollowed := true, recurses := true, apart := false }
def SlogBytesSaid : Prop := slogBytesRow.holds Try.pinned (OpenSpec.ofChange slogBytesSpec)

/-- ITS FALSE NEIGHBOUR: 'it returns false'. Refute it at one input. -/
def slogBytesWrong : ChangeSpec := { name := "slogBytes", fn := fun _ => fun
  | [d1, d2] => { results := [.lit (.bool false)], args := [d1, d2] }
  | _ => none }
def SlogBytesWrongFalsely : Prop := slogBytesRow.holds Try.pinned (OpenSpec.ofChange slogBytesWrong)

/-- 'aquiferlaw08.SlogBack': WHATEVER THE INPUT: true; the input reads as it did. -/
def slogBackSpec : ChangeSpec := { name := "slogBack", fn := fun _ => fun
  | [d1, d2, d3] => { results := [.lit (.bool true)], args := [d1, d2, d3] }
  | _ => none }
def slogBackRow : OpenClaim := { program := "ytaeklmnleampcaa", sum := "0c30a4fe6373bd9c6fda46cb09ba1325b9c1f46be09c657b10a931ae7e817e3c", func := "aquifer/aquiferlaw08.SlogBack", spec := "slogBack", unfollowed := true, recurses := true, apart := false }
def SlogBackSaid : Prop := slogBackRow.holds Try.pinned (OpenSpec.ofChange slogBackSpec)

/-- ITS FALSE NEIGHBOUR: 'it returns false'. Refute it at one input. -/
def slogBackWrong : ChangeSpec := { name := "slogBack", fn := fun _ => fun
  | [d1, d2, d3] => { results := [.lit (.bool false)], args := [d1, d2, d3] }
  | _ => none }
def SlogBackWrongFalsely : Prop := slogBackRow.holds Try.pinned (OpenSpec.ofChange slogBackWrong)

/- THE SECOND FORM. 'bulk': how many values and letters a reading holds, each counted each time it is reached (what is shared counts as often as it is met; a slice's spare places count too). A statement '..UptoSaid' is the law's where the arguments, and the package variables that the reading takes, are together of bulk at most 1048576: NARROWER than '..Said'. Prove '..Said' where nothing that the law and all that it calls make is longer than what came in: it says more and counts as full. Else prove '..UptoSaid'. A law counts once. -/
mutual
def uptoBulk {H : Type} : DataW H → Nat
  | .lit (.string bytes) => bytes.length + 1
  | .lit _ => 1
  | .nil => 1
  | .ptr d => uptoBulk d + 1
  | .slice elems spare => uptoBulkAll elems + uptoBulkAll spare + 1
  | .agg parts => uptoBulkAll parts + 1
  | .iface _ d => uptoBulk d + 1
  | .map entries => uptoBulkEntries entries + 1
  | .held _ => 1
def uptoBulkAll {H : Type} : List (DataW H) → Nat
  | [] => 0
  | d :: r => uptoBulk d + uptoBulkAll r
def uptoBulkEntries {H : Type} : List (Lit × DataW H) → Nat
  | [] => 0
  | x :: r => uptoBulkEntry x + uptoBulkEntries r
def uptoBulkEntry {H : Type} : Lit × DataW H → Nat
  | (.string bytes, d) => bytes.length + uptoBulk d + 1
  | (_, d) => uptoBulk d + 1
 end
def uptoSmall : (H : Type) → List (DataW H) → Bool := fun _ ds => decide (uptoBulkAll ds ≤ 1048576)
def OpenSpec.upto (s : _root_.Go.ChangeSpec) : _root_.Go.OpenSpec := { _root_.Go.OpenSpec.ofChange s with cond := some uptoSmall }

/-- 'aquiferlaw01.SpanRights', WHERE WHAT IT READS IS OF BULK AT MOST 1048576: true; the input reads as it did. -/
def spanRightsUptoRow : OpenClaim := { program := "ytaeklmnleampcaa", sum := "0c30a4fe6373bd9c6fda46cb09ba1325b9c1f46be09c657b10a931ae7e817e3c", func := "aquifer/aquiferlaw01.SpanRights", spec := "spanRights", apart := false, narrowed := true }
def SpanRightsUptoSaid : Prop := spanRightsUptoRow.holds Try.pinned (OpenSpec.upto spanRightsSpec)

/-- 'aquiferlaw08.SlogDiffs', WHERE WHAT IT READS IS OF BULK AT MOST 1048576: true; the input reads as it did. -/
def slogDiffsUptoRow : OpenClaim := { program := "ytaeklmnleampcaa", sum := "0c30a4fe6373bd9c6fda46cb09ba1325b9c1f46be09c657b10a931ae7e817e3c", func := "aquifer/aquiferlaw08.SlogDiffs", spec := "slogDiffs", unfollowed := true, recurses := true, apart := false, narrowed := true }
def SlogDiffsUptoSaid : Prop := slogDiffsUptoRow.holds Try.pinned (OpenSpec.upto slogDiffsSpec)

/-- 'aquiferlaw07.SlabMost', WHERE WHAT IT READS IS OF BULK AT MOST 1048576: true; the input reads as it did. -/
def slabMostUptoRow : OpenClaim := { program := "ytaeklmnleampcaa", sum := "0c30a4fe6373bd9c6fda46cb09ba1325b9c1f46be09c657b10a931ae7e817e3c", func := "aquifer/aquiferlaw07.SlabMost", spec := "slabMost", apart := false, narrowed := true }
def SlabMostUptoSaid : Prop := slabMostUptoRow.holds Try.pinned (OpenSpec.upto slabMostSpec)

/-- 'aquiferlaw01.SpanNames', WHERE WHAT IT READS IS OF BULK AT MOST 1048576: true; the input reads as it did. -/
def spanNamesUptoRow : OpenClaim := { program := "ytaeklmnleampcaa", sum := "0c30a4fe6373bd9c6fda46cb09ba1325b9c1f46be09c657b10a931ae7e817e3c", func := "aquifer/aquiferlaw01.SpanNames", spec := "spanNames", unfollowed := true, recurses := true, apart := false, narrowed := true }
def SpanNamesUptoSaid : Prop := spanNamesUptoRow.holds Try.pinned (OpenSpec.upto spanNamesSpec)

/-- 'aquiferlaw01.SpanFirsts', WHERE WHAT IT READS IS OF BULK AT MOST 1048576: true; the input reads as it did. -/
def spanFirstsUptoRow : OpenClaim := { program := "ytaeklmnleampcaa", sum := "0c30a4fe6373bd9c6fda46cb09ba1325b9c1f46be09c657b10a931ae7e817e3c", func := "aquifer/aquiferlaw01.SpanFirsts", spec := "spanFirsts", unfollowed := true, recurses := true, apart := false, narrowed := true }
def SpanFirstsUptoSaid : Prop := spanFirstsUptoRow.holds Try.pinned (OpenSpec.upto spanFirstsSpec)

/-- 'aquiferlaw01.SpanTells', WHERE WHAT IT READS IS OF BULK AT MOST 1048576: true; the input reads as it did. -/
def spanTellsUptoRow : OpenClaim := { program := "ytaeklmnleampcaa", sum := "0c30a4fe6373bd9c6fda46cb09ba1325b9c1f46be09c657b10a931ae7e817e3c", func := "aquifer/aquiferlaw01.SpanTells", spec := "spanTells", unfollowed := true, recurses := true, apart := false, narrowed := true }
def SpanTellsUptoSaid : Prop := spanTellsUptoRow.holds Try.pinned (OpenSpec.upto spanTellsSpec)

/-- 'aquiferlaw01.SpanBack', WHERE WHAT IT READS IS OF BULK AT MOST 1048576: true; the input reads as it did. -/
def spanBackUptoRow : OpenClaim := { program := "ytaeklmnleampcaa", sum := "0c30a4fe6373bd9c6fda46cb09ba1325b9c1f46be09c657b10a931ae7e817e3c", func := "aquifer/aquiferlaw01.SpanBack", spec := "spanBack", unfollowed := true, recurses := true, apart := false, narrowed := true }
def SpanBackUptoSaid : Prop := spanBackUptoRow.holds Try.pinned (OpenSpec.upto spanBackSpec)

/-- 'aquiferlaw07.SlabNames', WHERE WHAT IT READS IS OF BULK AT MOST 1048576: true; the input reads as it did. -/
def slabNamesUptoRow : OpenClaim := { program := "ytaeklmnleampcaa", sum := "0c30a4fe6373bd9c6fda46cb09ba1325b9c1f46be09c657b10a931ae7e817e3c", func := "aquifer/aquiferlaw07.SlabNames", spec := "slabNames", apart := false, narrowed := true }
def SlabNamesUptoSaid : Prop := slabNamesUptoRow.holds Try.pinned (OpenSpec.upto slabNamesSpec)

/-- 'aquiferlaw01.SpanMixes', WHERE WHAT IT READS IS OF BULK AT MOST 1048576: true; the input reads as it did. -/
def spanMixesUptoRow : OpenClaim := { program := "ytaeklmnleampcaa", sum := "0c30a4fe6373bd9c6fda46cb09ba1325b9c1f46be09c657b10a931ae7e817e3c", func := "aquifer/aquiferlaw01.SpanMixes", spec := "spanMixes", unfollowed := true, recurses := true, apart := false, narrowed := true }
def SpanMixesUptoSaid : Prop := spanMixesUptoRow.holds Try.pinned (OpenSpec.upto spanMixesSpec)

/-- 'aquiferlaw01.SpanTurns', WHERE WHAT IT READS IS OF BULK AT MOST 1048576: true; the input reads as it did. -/
def spanTurnsUptoRow : OpenClaim := { program := "ytaeklmnleampcaa", sum := "0c30a4fe6373bd9c6fda46cb09ba1325b9c1f46be09c657b10a931ae7e817e3c", func := "aquifer/aquiferlaw01.SpanTurns", spec := "spanTurns", unfollowed := true, recurses := true, apart := false, narrowed := true }
def SpanTurnsUptoSaid : Prop := spanTurnsUptoRow.holds Try.pinned (OpenSpec.upto spanTurnsSpec)

/-- 'aquiferlaw01.SpanAdds', WHERE WHAT IT READS IS OF BULK AT MOST 1048576: true; the input reads as it did. -/
def spanAddsUptoRow : OpenClaim := { program := "ytaeklmnleampcaa", sum := "0c30a4fe6373bd9c6fda46cb09ba1325b9c1f46be09c657b10a931ae7e817e3c", func := "aquifer/aquiferlaw01.SpanAdds", spec := "spanAdds", unfollowed := true, recurses := true, apart := false, narrowed := true }
def SpanAddsUptoSaid : Prop := spanAddsUptoRow.holds Try.pinned (OpenSpec.upto spanAddsSpec)

/-- 'aquiferlaw07.SlabApart', WHERE WHAT IT READS IS OF BULK AT MOST 1048576: true; the input reads as it did. -/
def slabApartUptoRow : OpenClaim := { program := "ytaeklmnleampcaa", sum := "0c30a4fe6373bd9c6fda46cb09ba1325b9c1f46be09c657b10a931ae7e817e3c", func := "aquifer/aquiferlaw07.SlabApart", spec := "slabApart", apart := false, narrowed := true }
def SlabApartUptoSaid : Prop := slabApartUptoRow.holds Try.pinned (OpenSpec.upto slabApartSpec)

/-- 'aquiferlaw07.SlabTurns', WHERE WHAT IT READS IS OF BULK AT MOST 1048576: true; the input reads as it did. -/
def slabTurnsUptoRow : OpenClaim := { program := "ytaeklmnleampcaa", sum := "0c30a4fe6373bd9c6fda46cb09ba1325b9c1f46be09c657b10a931ae7e817e3c", func := "aquifer/aquiferlaw07.SlabTurns", spec := "slabTurns", apart := false, narrowed := true }
def SlabTurnsUptoSaid : Prop := slabTurnsUptoRow.holds Try.pinned (OpenSpec.upto slabTurnsSpec)

/-- 'aquiferlaw07.SlabFull', WHERE WHAT IT READS IS OF BULK AT MOST 1048576: true; the input reads as it did. -/
def slabFullUptoRow : OpenClaim := { program := "ytaeklmnleampcaa", sum := "0c30a4fe6373bd9c6fda46cb09ba1325b9c1f46be09c657b10a931ae7e817e3c", func := "aquifer/aquiferlaw07.SlabFull", spec := "slabFull", apart := false, narrowed := true }
def SlabFullUptoSaid : Prop := slabFullUptoRow.holds Try.pinned (OpenSpec.upto slabFullSpec)

/-- 'aquiferlaw07.SlabRuns', WHERE WHAT IT READS IS OF BULK AT MOST 1048576: true; the input reads as it did. -/
def slabRunsUptoRow : OpenClaim := { program := "ytaeklmnleampcaa", sum := "0c30a4fe6373bd9c6fda46cb09ba1325b9c1f46be09c657b10a931ae7e817e3c", func := "aquifer/aquiferlaw07.SlabRuns", spec := "slabRuns", apart := false, narrowed := true }
def SlabRunsUptoSaid : Prop := slabRunsUptoRow.holds Try.pinned (OpenSpec.upto slabRunsSpec)

/-- 'aquiferlaw08.SlogReplays', WHERE WHAT IT READS IS OF BULK AT MOST 1048576: true; the input reads as it did. -/
def slogReplaysUptoRow : OpenClaim := { program := "ytaeklmnleampcaa", sum := "0c30a4fe6373bd9c6fda46cb09ba1325b9c1f46be09c657b10a931ae7e817e3c", func := "aquifer/aquiferlaw08.SlogReplays", spec := "slogReplays", unfollowed := true, recurses := true, apart := false, narrowed := true }
def SlogReplaysUptoSaid : Prop := slogReplaysUptoRow.holds Try.pinned (OpenSpec.upto slogReplaysSpec)

/-- 'aquiferlaw08.SlogParts', WHERE WHAT IT READS IS OF BULK AT MOST 1048576: true; the input reads as it did. -/
def slogPartsUptoRow : OpenClaim := { program := "ytaeklmnleampcaa", sum := "0c30a4fe6373bd9c6fda46cb09ba1325b9c1f46be09c657b10a931ae7e817e3c", func := "aquifer/aquiferlaw08.SlogParts", spec := "slogParts", unfollowed := true, recurses := true, apart := false, narrowed := true }
def SlogPartsUptoSaid : Prop := slogPartsUptoRow.holds Try.pinned (OpenSpec.upto slogPartsSpec)

/-- 'aquiferlaw08.SlogNames', WHERE WHAT IT READS IS OF BULK AT MOST 1048576: true; the input reads as it did. -/
def slogNamesUptoRow : OpenClaim := { program := "ytaeklmnleampcaa", sum := "0c30a4fe6373bd9c6fda46cb09ba1325b9c1f46be09c657b10a931ae7e817e3c", func := "aquifer/aquiferlaw08.SlogNames", spec := "slogNames", unfollowed := true, recurses := true, apart := false, narrowed := true }
def SlogNamesUptoSaid : Prop := slogNamesUptoRow.holds Try.pinned (OpenSpec.upto slogNamesSpec)

/-- 'aquiferlaw08.SlogLeads', WHERE WHAT IT READS IS OF BULK AT MOST 1048576: true; the input reads as it did. -/
def slogLeadsUptoRow : OpenClaim := { program := "ytaeklmnleampcaa", sum := "0c30a4fe6373bd9c6fda46cb09ba1325b9c1f46be09c657b10a931ae7e817e3c", func := "aquifer/aquiferlaw08.SlogLeads", spec := "slogLeads", unfollowed := true, recurses := true, apart := false, narrowed := true }
def SlogLeadsUptoSaid : Prop := slogLeadsUptoRow.holds Try.pinned (OpenSpec.upto slogLeadsSpec)

/-- 'aquiferlaw08.SlogBytes', WHERE WHAT IT READS IS OF BULK AT MOST 1048576: true; the input reads as it did. -/
def slogBytesUptoRow : OpenClaim := { program := "ytaeklmnleampcaa", sum := "0c30a4fe6373bd9c6fda46cb09ba1325b9c1f46be09c657b10a931ae7e817e3c", func := "aquifer/aquiferlaw08.SlogBytes", spec := "slogBytes", unfollowed := true, recurses := true, apart := false, narrowed := true }
def SlogBytesUptoSaid : Prop := slogBytesUptoRow.holds Try.pinned (OpenSpec.upto slogBytesSpec)

/-- 'aquiferlaw08.SlogBack', WHERE WHAT IT READS IS OF BULK AT MOST 1048576: true; the input reads as it did. -/
def slogBackUptoRow : OpenClaim := { program := "ytaeklmnleampcaa", sum := "0c30a4fe6373bd9c6fda46cb09ba1325b9c1f46be09c657b10a931ae7e817e3c", func := "aquifer/aquiferlaw08.SlogBack", spec := "slogBack", unfollowed := true, recurses := true, apart := false, narrowed := true }
def SlogBackUptoSaid : Prop := slogBackUptoRow.holds Try.pinned (OpenSpec.upto slogBackSpec)

end Rows
end Go.Proofs.Ytaeklmnleampcaa
