/-
  No cell of these rows narrows 'for every input' (looked for: loops, veiled, ifaces, maps, wideKeys, modest, calm, conditions, laid).
  DERIVED. THE GIVEN ROWS OF THIS SEAT. 4 by the template 'for every input the law returns true; each argument reads behind the call as it read before'; 0 by the template 'total and deterministic' (their statements: YtklligbjoplbgaaGreatTotals.lean).
  GIVEN WITH THE SEED: the statements are not yours to turn. If you find one false, say at which input.
  Laid BY PROGRAM, IN A SANDBOX (cutbox-rows.mjs): the forced cells as the released guide's own fill.sh prints them over the translation 606ef8ab841aaae4… (all of the seat's roots in one cut). By AI agents, Wed Nov 11 2026. No macro, syntax, notation, axiom, sorry.
-/
import Derived.Test.YtklligbjoplbgaaGreatChecked
import GoSem.Claim
import GoSem.ClaimJoined
import GoSem.ClaimMapViews
import Derived.JoinedTies
import Derived.KernelRfl
namespace Go.Proofs.YtklligbjoplbgaaGreat
/- THE CELL 'sum', in the pinned program and in every row, IS THE sha256 OF THE DUMP (.gsa) THAT YtklligbjoplbgaaGreatProg.lean LOADS. Nothing in Lean hashes anything: it is a label: what it is worth is what the hold of that sum in a sandbox is worth. -/
noncomputable def Tryz.pinned : Pinned := { name := "ytklligbjoplbgaagreat", sum := "606ef8ab841aaae49387be31b13c6bdbb563f3d7ea2fd4587ef344345afbb513", checked := Tryz.checked }
namespace Rows
def none {H : Type} : Left H := { results := [], args := [] }

/-- 'aquifertop.WholeBytes': WHATEVER THE INPUT: true; the input reads as it did. -/
def wholeBytesSpec : ChangeSpec := { name := "wholeBytes", fn := fun _ => fun
  | [d] => { results := [.lit (.bool true)], args := [d] }
  | _ => none }
def wholeBytesRow : OpenClaim := { program := "ytklligbjoplbgaagreat", sum := "606ef8ab841aaae49387be31b13c6bdbb563f3d7ea2fd4587ef344345afbb513", func := "aquifer/aquifertop.WholeBytes", spec := "wholeBytes", inPlace := ["internal/bytealg.IndexByteString", "internal/bytealg.IndexString"], unfollowed := true, recurses := true, named := ["internal/bytealg.MaxLen"], plainKeys := false, apart := false }
def WholeBytesSaid : Prop := wholeBytesRow.holds Tryz.pinned (OpenSpec.ofChange wholeBytesSpec)

/-- ITS FALSE NEIGHBOUR: 'it returns false'. Refute it at one input. -/
def wholeBytesWrong : ChangeSpec := { name := "wholeBytes", fn := fun _ => fun
  | [d] => { results := [.lit (.bool false)], args := [d] }
  | _ => none }
def WholeBytesWrongFalsely : Prop := wholeBytesRow.holds Tryz.pinned (OpenSpec.ofChange wholeBytesWrong)

/-- 'aquifertop.WholeSnaps': WHATEVER THE INPUT: true; the input reads as it did. -/
def wholeSnapsSpec : ChangeSpec := { name := "wholeSnaps", fn := fun _ => fun
  | [d1, d2, d3] => { results := [.lit (.bool true)], args := [d1, d2, d3] }
  | _ => none }
def wholeSnapsRow : OpenClaim := { program := "ytklligbjoplbgaagreat", sum := "606ef8ab841aaae49387be31b13c6bdbb563f3d7ea2fd4587ef344345afbb513", func := "aquifer/aquifertop.WholeSnaps", spec := "wholeSnaps", inPlace := ["internal/bytealg.IndexByteString", "internal/bytealg.IndexString"], unfollowed := true, recurses := true, named := ["internal/bytealg.MaxLen"], plainKeys := false, apart := false }
def WholeSnapsSaid : Prop := wholeSnapsRow.holds Tryz.pinned (OpenSpec.ofChange wholeSnapsSpec)

/-- ITS FALSE NEIGHBOUR: 'it returns false'. Refute it at one input. -/
def wholeSnapsWrong : ChangeSpec := { name := "wholeSnaps", fn := fun _ => fun
  | [d1, d2, d3] => { results := [.lit (.bool false)], args := [d1, d2, d3] }
  | _ => none }
def WholeSnapsWrongFalsely : Prop := wholeSnapsRow.holds Tryz.pinned (OpenSpec.ofChange wholeSnapsWrong)

/-- 'aquifertop.WholeReturns': WHATEVER THE INPUT: true; the input reads as it did. -/
def wholeReturnsSpec : ChangeSpec := { name := "wholeReturns", fn := fun _ => fun
  | [d1, d2] => { results := [.lit (.bool true)], args := [d1, d2] }
  | _ => none }
def wholeReturnsRow : OpenClaim := { program := "ytklligbjoplbgaagreat", sum := "606ef8ab841aaae49387be31b13c6bdbb563f3d7ea2fd4587ef344345afbb513", func := "aquifer/aquifertop.WholeReturns", spec := "wholeReturns", inPlace := ["internal/bytealg.IndexByteString", "internal/bytealg.IndexString"], unfollowed := true, recurses := true, named := ["internal/bytealg.MaxLen"], plainKeys := false, apart := false }
def WholeReturnsSaid : Prop := wholeReturnsRow.holds Tryz.pinned (OpenSpec.ofChange wholeReturnsSpec)

/-- ITS FALSE NEIGHBOUR: 'it returns false'. Refute it at one input. -/
def wholeReturnsWrong : ChangeSpec := { name := "wholeReturns", fn := fun _ => fun
  | [d1, d2] => { results := [.lit (.bool false)], args := [d1, d2] }
  | _ => none }
def WholeReturnsWrongFalsely : Prop := wholeReturnsRow.holds Tryz.pinned (OpenSpec.ofChange wholeReturnsWrong)

/-- 'aquifertop.WholeAudit': WHATEVER THE INPUT: true; the input reads as it did. -/
def wholeAuditSpec : ChangeSpec := { name := "wholeAudit", fn := fun _ => fun
  | [d1, d2] => { results := [.lit (.bool true)], args := [d1, d2] }
  | _ => none }
def wholeAuditRow : OpenClaim := { program := "ytklligbjoplbgaagreat", sum := "606ef8ab841aaae49387be31b13c6bdbb563f3d7ea2fd4587ef344345afbb513", func := "aquifer/aquifertop.WholeAudit", spec := "wholeAudit", inPlace := ["internal/bytealg.IndexByteString", "internal/bytealg.IndexString"], unfollowed := true, recurses := true, named := ["internal/bytealg.MaxLen"], plainKeys := false, apart := false }
def WholeAuditSaid : Prop := wholeAuditRow.holds Tryz.pinned (OpenSpec.ofChange wholeAuditSpec)

/-- ITS FALSE NEIGHBOUR: 'it returns false'. Refute it at one input. -/
def wholeAuditWrong : ChangeSpec := { name := "wholeAudit", fn := fun _ => fun
  | [d1, d2] => { results := [.lit (.bool false)], args := [d1, d2] }
  | _ => none }
def WholeAuditWrongFalsely : Prop := wholeAuditRow.holds Tryz.pinned (OpenSpec.ofChange wholeAuditWrong)

/- THE SECOND FORM. 'bulk': how many values and letters a reading holds, each counted each time it is reached (what is shared counts as often as it is met; a slice's spare places count too). A statement '..UptoSaid' is the law's where the arguments, and the package variables that the reading takes, are together of bulk at most 1048576: NARROWER than '..Said'. Prove '..Said' where nothing that the law and all that it calls make is longer than what came in: it says more and counts as full. Else prove '..UptoSaid'. A law counts once. -/
mutual
def uptoBulk {H : Type} : DataW H → Nat
  | .lit (.string bytes) => bytes.length + 1
  | .lit _ => 1
  | .nil => 1
  | .ptr d => uptoBulk d + 1
  | .slice elems spare => uptoBulkAll elems + uptoBulkAll spare + 1
  | .agg parts => uptoBulkAll parts + 1
  | .iface _ d => uptoBulk d + 1
  | .map entries => uptoBulkEntries entries + 1
  | .held _ => 1
def uptoBulkAll {H : Type} : List (DataW H) → Nat
  | [] => 0
  | d :: r => uptoBulk d + uptoBulkAll r
def uptoBulkEntries {H : Type} : List (Lit × DataW H) → Nat
  | [] => 0
  | x :: r => uptoBulkEntry x + uptoBulkEntries r
def uptoBulkEntry {H : Type} : Lit × DataW H → Nat
  | (.string bytes, d) => bytes.length + uptoBulk d + 1
  | (_, d) => uptoBulk d + 1
 end
def uptoSmall : (H : Type) → List (DataW H) → Bool := fun _ ds => decide (uptoBulkAll ds ≤ 1048576)
def OpenSpec.upto (s : _root_.Go.ChangeSpec) : _root_.Go.OpenSpec := { _root_.Go.OpenSpec.ofChange s with cond := some uptoSmall }

/-- 'aquifertop.WholeBytes', WHERE WHAT IT READS IS OF BULK AT MOST 1048576: true; the input reads as it did. -/
def wholeBytesUptoRow : OpenClaim := { program := "ytklligbjoplbgaagreat", sum := "606ef8ab841aaae49387be31b13c6bdbb563f3d7ea2fd4587ef344345afbb513", func := "aquifer/aquifertop.WholeBytes", spec := "wholeBytes", inPlace := ["internal/bytealg.IndexByteString", "internal/bytealg.IndexString"], unfollowed := true, recurses := true, named := ["internal/bytealg.MaxLen"], plainKeys := false, apart := false, narrowed := true }
def WholeBytesUptoSaid : Prop := wholeBytesUptoRow.holds Tryz.pinned (OpenSpec.upto wholeBytesSpec)

/-- 'aquifertop.WholeSnaps', WHERE WHAT IT READS IS OF BULK AT MOST 1048576: true; the input reads as it did. -/
def wholeSnapsUptoRow : OpenClaim := { program := "ytklligbjoplbgaagreat", sum := "606ef8ab841aaae49387be31b13c6bdbb563f3d7ea2fd4587ef344345afbb513", func := "aquifer/aquifertop.WholeSnaps", spec := "wholeSnaps", inPlace := ["internal/bytealg.IndexByteString", "internal/bytealg.IndexString"], unfollowed := true, recurses := true, named := ["internal/bytealg.MaxLen"], plainKeys := false, apart := false, narrowed := true }
def WholeSnapsUptoSaid : Prop := wholeSnapsUptoRow.holds Tryz.pinned (OpenSpec.upto wholeSnapsSpec)

/-- 'aquifertop.WholeReturns', WHERE WHAT IT READS IS OF BULK AT MOST 1048576: true; the input reads as it did. -/
def wholeReturnsUptoRow : OpenClaim := { program := "ytklligbjoplbgaagreat", sum := "606ef8ab841aaae49387be31b13c6bdbb563f3d7ea2fd4587ef344345afbb513", func := "aquifer/aquifertop.WholeReturns", spec := "wholeReturns", inPlace := ["internal/bytealg.IndexByteString", "internal/bytealg.IndexString"], unfollowed := true, recurses := true, named := ["internal/bytealg.MaxLen"], plainKeys := false, apart := false, narrowed := true }
def WholeReturnsUptoSaid : Prop := wholeReturnsUptoRow.holds Tryz.pinned (OpenSpec.upto wholeReturnsSpec)

/-- 'aquifertop.WholeAudit', WHERE WHAT IT READS IS OF BULK AT MOST 1048576: true; the input reads as it did. -/
def wholeAuditUptoRow : OpenClaim := { program := "ytklligbjoplbgaagreat", sum := "606ef8ab841aaae49387be31b13c6bdbb563f3d7ea2fd4587ef344345afbb513", func := "aquifer/aquifertop.WholeAudit", spec := "wholeAudit", inPlace := ["internal/bytealg.IndexByteString", "internal/bytealg.IndexString"], unfollowed := true, recurses := true, named := ["internal/bytealg.MaxLen"], plainKeys := false, apart := false, narrowed := true }
def WholeAuditUptoSaid : Prop := wholeAuditUptoRow.holds Tryz.pinned (OpenSpec.upto wholeAuditSpec)

end Rows
end Go.Proofs.YtklligbjoplbgaaGreat
