/-
  No cell of these rows narrows 'for every input' (looked for: loops, veiled, ifaces, maps, wideKeys, modest, calm, conditions, laid).
  DERIVED. THE GIVEN ROWS OF THIS SEAT. 6 by the template 'for every input the law returns true; each argument reads behind the call as it read before'; 0 by the template 'total and deterministic' (their statements: YthbdmfbjkkmplaaTotals.lean).
  GIVEN WITH THE SEED: the statements are not yours to turn. If you find one false, say at which input.
  Laid BY PROGRAM, IN A SANDBOX (cutbox-rows.mjs): the forced cells as the released guide's own fill.sh prints them over the translation a7fce798c9f5b10d… (all of the seat's roots in one cut). By AI agents, Wed Nov 11 2026. No macro, syntax, notation, axiom, sorry.
-/
import Derived.Test.YthbdmfbjkkmplaaChecked
import GoSem.Claim
import GoSem.ClaimJoined
import GoSem.ClaimMapViews
import Derived.JoinedTies
import Derived.KernelRfl
namespace Go.Proofs.Ythbdmfbjkkmplaa
/- THE CELL 'sum', in the pinned program and in every row, IS THE sha256 OF THE DUMP (.gsa) THAT YthbdmfbjkkmplaaProg.lean LOADS. Nothing in Lean hashes anything: it is a label: what it is worth is what the hold of that sum in a sandbox is worth. -/
noncomputable def Try.pinned : Pinned := { name := "ythbdmfbjkkmplaa", sum := "a7fce798c9f5b10d019b35744d1cb31ac7565b10ff844599bdc2b492894a7dd6", checked := Try.checked }
namespace Rows
def none {H : Type} : Left H := { results := [], args := [] }

/-- 'erewhilelaw61.AuditRoots': WHATEVER THE INPUT: true; the input reads as it did. -/
def auditRootsSpec : ChangeSpec := { name := "auditRoots", fn := fun _ => fun
  | [d1, d2, d3, d4, d5, d6] => { results := [.lit (.bool true)], args := [d1, d2, d3, d4, d5, d6] }
  | _ => none }
def auditRootsRow : OpenClaim := { program := "ythbdmfbjkkmplaa", sum := "a7fce798c9f5b10d019b35744d1cb31ac7565b10ff844599bdc2b492894a7dd6", func := "erewhile/erewhilelaw61.AuditRoots", spec := "auditRoots", unfollowed := true, recurses := true, apart := false }
def AuditRootsSaid : Prop := auditRootsRow.holds Try.pinned (OpenSpec.ofChange auditRootsSpec)

/-- ITS FALSE NEIGHBOUR: 'it returns false'. Refute it at one input. -/
def auditRootsWrong : ChangeSpec := { name := "auditRoots", fn := fun _ => fun
  | [d1, d2, d3, d4, d5, d6] => { results := [.lit (.bool false)], args := [d1, d2, d3, d4, d5, d6] }
  | _ => none }
def AuditRootsWrongFalsely : Prop := auditRootsRow.holds Try.pinned (OpenSpec.ofChange auditRootsWrong)

/-- 'erewhilelaw61.AuditProves': WHATEVER THE INPUT: true; the input reads as it did. -/
def auditProvesSpec : ChangeSpec := { name := "auditProves", fn := fun _ => fun
  | [d1, d2, d3, d4, d5] => { results := [.lit (.bool true)], args := [d1, d2, d3, d4, d5] }
  | _ => none }
def auditProvesRow : OpenClaim := { program := "ythbdmfbjkkmplaa", sum := "a7fce798c9f5b10d019b35744d1cb31ac7565b10ff844599bdc2b492894a7dd6", func := "erewhile/erewhilelaw61.AuditProves", spec := "auditProves", unfollowed := true, recurses := true, apart := false }
def AuditProvesSaid : Prop := auditProvesRow.holds Try.pinned (OpenSpec.ofChange auditProvesSpec)

/-- ITS FALSE NEIGHBOUR: 'it returns false'. Refute it at one input. -/
def auditProvesWrong : ChangeSpec := { name := "auditProves", fn := fun _ => fun
  | [d1, d2, d3, d4, d5] => { results := [.lit (.bool false)], args := [d1, d2, d3, d4, d5] }
  | _ => none }
def AuditProvesWrongFalsely : Prop := auditProvesRow.holds Try.pinned (OpenSpec.ofChange auditProvesWrong)

/-- 'erewhilelaw61.AuditChecks': WHATEVER THE INPUT: true; the input reads as it did. -/
def auditChecksSpec : ChangeSpec := { name := "auditChecks", fn := fun _ => fun
  | [d1, d2] => { results := [.lit (.bool true)], args := [d1, d2] }
  | _ => none }
def auditChecksRow : OpenClaim := { program := "ythbdmfbjkkmplaa", sum := "a7fce798c9f5b10d019b35744d1cb31ac7565b10ff844599bdc2b492894a7dd6", func := "erewhile/erewhilelaw61.AuditChecks", spec := "auditChecks", unfollowed := true, recurses := true, apart := false }
def AuditChecksSaid : Prop := auditChecksRow.holds Try.pinned (OpenSpec.ofChange auditChecksSpec)

/-- ITS FALSE NEIGHBOUR: 'it returns false'. Refute it at one input. -/
def auditChecksWrong : ChangeSpec := { name := "auditChecks", fn := fun _ => fun
  | [d1, d2] => { results := [.lit (.bool false)], args := [d1, d2] }
  | _ => none }
def AuditChecksWrongFalsely : Prop := auditChecksRow.holds Try.pinned (OpenSpec.ofChange auditChecksWrong)

/-- 'erewhilelaw61.AuditSpoilt': WHATEVER THE INPUT: true; the input reads as it did. -/
def auditSpoiltSpec : ChangeSpec := { name := "auditSpoilt", fn := fun _ => fun
  | [d1, d2, d3, d4, d5] => { results := [.lit (.bool true)], args := [d1, d2, d3, d4, d5] }
  | _ => none }
def auditSpoiltRow : OpenClaim := { program := "ythbdmfbjkkmplaa", sum := "a7fce798c9f5b10d019b35744d1cb31ac7565b10ff844599bdc2b492894a7dd6", func := "erewhile/erewhilelaw61.AuditSpoilt", spec := "auditSpoilt", unfollowed := true, recurses := true, apart := false }
def AuditSpoiltSaid : Prop := auditSpoiltRow.holds Try.pinned (OpenSpec.ofChange auditSpoiltSpec)

/-- ITS FALSE NEIGHBOUR: 'it returns false'. Refute it at one input. -/
def auditSpoiltWrong : ChangeSpec := { name := "auditSpoilt", fn := fun _ => fun
  | [d1, d2, d3, d4, d5] => { results := [.lit (.bool false)], args := [d1, d2, d3, d4, d5] }
  | _ => none }
def AuditSpoiltWrongFalsely : Prop := auditSpoiltRow.holds Try.pinned (OpenSpec.ofChange auditSpoiltWrong)

/-- 'erewhilelaw61.AuditAsks': WHATEVER THE INPUT: true; the input reads as it did. -/
def auditAsksSpec : ChangeSpec := { name := "auditAsks", fn := fun _ => fun
  | [d1, d2] => { results := [.lit (.bool true)], args := [d1, d2] }
  | _ => none }
def auditAsksRow : OpenClaim := { program := "ythbdmfbjkkmplaa", sum := "a7fce798c9f5b10d019b35744d1cb31ac7565b10ff844599bdc2b492894a7dd6", func := "erewhile/erewhilelaw61.AuditAsks", spec := "auditAsks", unfollowed := true, recurses := true, apart := false }
def AuditAsksSaid : Prop := auditAsksRow.holds Try.pinned (OpenSpec.ofChange auditAsksSpec)

/-- ITS FALSE NEIGHBOUR: 'it returns false'. Refute it at one input. -/
def auditAsksWrong : ChangeSpec := { name := "auditAsks", fn := fun _ => fun
  | [d1, d2] => { results := [.lit (.bool false)], args := [d1, d2] }
  | _ => none }
def AuditAsksWrongFalsely : Prop := auditAsksRow.holds Try.pinned (OpenSpec.ofChange auditAsksWrong)

/-- 'erewhilelaw61.AuditNone': WHATEVER THE INPUT: true; the input reads as it did. -/
def auditNoneSpec : ChangeSpec := { name := "auditNone", fn := fun _ => fun
  | [d1, d2, d3, d4, d5] => { results := [.lit (.bool true)], args := [d1, d2, d3, d4, d5] }
  | _ => none }
def auditNoneRow : OpenClaim := { program := "ythbdmfbjkkmplaa", sum := "a7fce798c9f5b10d019b35744d1cb31ac7565b10ff844599bdc2b492894a7dd6", func := "erewhile/erewhilelaw61.AuditNone", spec := "auditNone", unfollowed := true, recurses := true, apart := false }
def AuditNoneSaid : Prop := auditNoneRow.holds Try.pinned (OpenSpec.ofChange auditNoneSpec)

/-- ITS FALSE NEIGHBOUR: 'it returns false'. Refute it at one input. -/
def auditNoneWrong : ChangeSpec := { name := "auditNone", fn := fun _ => fun
  | [d1, d2, d3, d4, d5] => { results := [.lit (.bool false)], args := [d1, d2, d3, d4, d5] }
  | _ => none }
def AuditNoneWrongFalsely : Prop := auditNoneRow.holds Try.pinned (OpenSpec.ofChange auditNoneWrong)

/- THE SECOND FORM. 'bulk': how many values and letters a reading holds, each counted each time it is reached (what is shared counts as often as it is met; a slice's spare places count too). A statement '..UptoSaid' is the law's where the arguments, and the package variables that the reading takes, are together of bulk at most 1048576: NARROWER than '..Said'. Prove '..Said' where nothing that the law and all that it calls make is longer than what came in: it says more and counts as full. Else prove '..UptoSaid'. A law counts once. -/
mutual
def uptoBulk {H : Type} : DataW H → Nat
  | .lit (.string bytes) => bytes.length + 1
  | .lit _ => 1
  | .nil => 1
  | .ptr d => uptoBulk d + 1
  | .slice elems spare => uptoBulkAll elems + uptoBulkAll spare + 1
  | .agg parts => uptoBulkAll parts + 1
  | .iface _ d => uptoBulk d + 1
  | .map entries => uptoBulkEntries entries + 1
  | .held _ => 1
def uptoBulkAll {H : Type} : List (DataW H) → Nat
  | [] => 0
  | d :: r => uptoBulk d + uptoBulkAll r
def uptoBulkEntries {H : Type} : List (Lit × DataW H) → Nat
  | [] => 0
  | x :: r => uptoBulkEntry x + uptoBulkEntries r
def uptoBulkEntry {H : Type} : Lit × DataW H → Nat
  | (.string bytes, d) => bytes.length + uptoBulk d + 1
  | (_, d) => uptoBulk d + 1
 end
def uptoSmall : (H : Type) → List (DataW H) → Bool := fun _ ds => decide (uptoBulkAll ds ≤ 1048576)
def OpenSpec.upto (s : _root_.Go.ChangeSpec) : _root_.Go.OpenSpec := { _root_.Go.OpenSpec.ofChange s with cond := some uptoSmall }

/-- 'erewhilelaw61.AuditRoots', WHERE WHAT IT READS IS OF BULK AT MOST 1048576: true; the input reads as it did. -/
def auditRootsUptoRow : OpenClaim := { program := "ythbdmfbjkkmplaa", sum := "a7fce798c9f5b10d019b35744d1cb31ac7565b10ff844599bdc2b492894a7dd6", func := "erewhile/erewhilelaw61.AuditRoots", spec := "auditRoots", unfollowed := true, recurses := true, apart := false, narrowed := true }
def AuditRootsUptoSaid : Prop := auditRootsUptoRow.holds Try.pinned (OpenSpec.upto auditRootsSpec)

/-- 'erewhilelaw61.AuditProves', WHERE WHAT IT READS IS OF BULK AT MOST 1048576: true; the input reads as it did. -/
def auditProvesUptoRow : OpenClaim := { program := "ythbdmfbjkkmplaa", sum := "a7fce798c9f5b10d019b35744d1cb31ac7565b10ff844599bdc2b492894a7dd6", func := "erewhile/erewhilelaw61.AuditProves", spec := "auditProves", unfollowed := true, recurses := true, apart := false, narrowed := true }
def AuditProvesUptoSaid : Prop := auditProvesUptoRow.holds Try.pinned (OpenSpec.upto auditProvesSpec)

/-- 'erewhilelaw61.AuditChecks', WHERE WHAT IT READS IS OF BULK AT MOST 1048576: true; the input reads as it did. -/
def auditChecksUptoRow : OpenClaim := { program := "ythbdmfbjkkmplaa", sum := "a7fce798c9f5b10d019b35744d1cb31ac7565b10ff844599bdc2b492894a7dd6", func := "erewhile/erewhilelaw61.AuditChecks", spec := "auditChecks", unfollowed := true, recurses := true, apart := false, narrowed := true }
def AuditChecksUptoSaid : Prop := auditChecksUptoRow.holds Try.pinned (OpenSpec.upto auditChecksSpec)

/-- 'erewhilelaw61.AuditSpoilt', WHERE WHAT IT READS IS OF BULK AT MOST 1048576: true; the input reads as it did. -/
def auditSpoiltUptoRow : OpenClaim := { program := "ythbdmfbjkkmplaa", sum := "a7fce798c9f5b10d019b35744d1cb31ac7565b10ff844599bdc2b492894a7dd6", func := "erewhile/erewhilelaw61.AuditSpoilt", spec := "auditSpoilt", unfollowed := true, recurses := true, apart := false, narrowed := true }
def AuditSpoiltUptoSaid : Prop := auditSpoiltUptoRow.holds Try.pinned (OpenSpec.upto auditSpoiltSpec)

/-- 'erewhilelaw61.AuditAsks', WHERE WHAT IT READS IS OF BULK AT MOST 1048576: true; the input reads as it did. -/
def auditAsksUptoRow : OpenClaim := { program := "ythbdmfbjkkmplaa", sum := "a7fce798c9f5b10d019b35744d1cb31ac7565b10ff844599bdc2b492894a7dd6", func := "erewhile/erewhilelaw61.AuditAsks", spec := "auditAsks", unfollowed := true, recurses := true, apart := false, narrowed := true }
def AuditAsksUptoSaid : Prop := auditAsksUptoRow.holds Try.pinned (OpenSpec.upto auditAsksSpec)

/-- 'erewhilelaw61.AuditNone', WHERE WHAT IT READS IS OF BULK AT MOST 1048576: true; the input reads as it did. -/
def auditNoneUptoRow : OpenClaim := { program := "ythbdmfbjkkmplaa", sum := "a7fce798c9f5b10d019b35744d1cb31ac7565b10ff844599bdc2b492894a7dd6", func := "erewhile/erewhilelaw61.AuditNone", spec := "auditNone", unfollowed := true, recurses := true, apart := false, narrowed := true }
def AuditNoneUptoSaid : Prop := auditNoneUptoRow.holds Try.pinned (OpenSpec.upto auditNoneSpec)

end Rows
end Go.Proofs.Ythbdmfbjkkmplaa
