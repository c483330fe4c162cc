/-
  No cell of these rows narrows 'for every input' (looked for: loops, veiled, ifaces, maps, wideKeys, modest, calm, conditions, laid).
  DERIVED. THE GIVEN ROWS OF THIS SEAT. 10 by the template 'for every input the law returns true; each argument reads behind the call as it read before'; 0 by the template 'total and deterministic' (their statements: YthlmcoeikelheaaTotals.lean).
  GIVEN WITH THE SEED: the statements are not yours to turn. If you find one false, say at which input.
  Laid BY PROGRAM, IN A SANDBOX (cutbox-rows.mjs): the forced cells as the released guide's own fill.sh prints them over the translation b5e4e45b65cb433e… (all of the seat's roots in one cut). By AI agents, Wed Nov 11 2026. No macro, syntax, notation, axiom, sorry.
-/
import Derived.Test.YthlmcoeikelheaaChecked
import GoSem.Claim
import GoSem.ClaimJoined
import GoSem.ClaimMapViews
import Derived.JoinedTies
import Derived.KernelRfl
namespace Go.Proofs.Ythlmcoeikelheaa
/- THE CELL 'sum', in the pinned program and in every row, IS THE sha256 OF THE DUMP (.gsa) THAT YthlmcoeikelheaaProg.lean LOADS. Nothing in Lean hashes anything: it is a label: what it is worth is what the hold of that sum in a sandbox is worth. -/
noncomputable def Try.pinned : Pinned := { name := "ythlmcoeikelheaa", sum := "b5e4e45b65cb433e8be916822cef571b58d92d4ce567b9f797d6c97a0b4e785d", checked := Try.checked }
namespace Rows
def none {H : Type} : Left H := { results := [], args := [] }

/-- 'erewhilelaw28.MomentCloses': WHATEVER THE INPUT: true; the input reads as it did. -/
def momentClosesSpec : ChangeSpec := { name := "momentCloses", fn := fun _ => fun
  | [d1, d2, d3, d4] => { results := [.lit (.bool true)], args := [d1, d2, d3, d4] }
  | _ => none }
def momentClosesRow : OpenClaim := { program := "ythlmcoeikelheaa", sum := "b5e4e45b65cb433e8be916822cef571b58d92d4ce567b9f797d6c97a0b4e785d", func := "erewhile/erewhilelaw28.MomentCloses", spec := "momentCloses", unfollowed := true, recurses := true, apart := false }
def MomentClosesSaid : Prop := momentClosesRow.holds Try.pinned (OpenSpec.ofChange momentClosesSpec)

/-- ITS FALSE NEIGHBOUR: 'it returns false'. Refute it at one input. -/
def momentClosesWrong : ChangeSpec := { name := "momentCloses", fn := fun _ => fun
  | [d1, d2, d3, d4] => { results := [.lit (.bool false)], args := [d1, d2, d3, d4] }
  | _ => none }
def MomentClosesWrongFalsely : Prop := momentClosesRow.holds Try.pinned (OpenSpec.ofChange momentClosesWrong)

/-- 'erewhilelaw28.MomentWindows': WHATEVER THE INPUT: true; the input reads as it did. -/
def momentWindowsSpec : ChangeSpec := { name := "momentWindows", fn := fun _ => fun
  | [d1, d2] => { results := [.lit (.bool true)], args := [d1, d2] }
  | _ => none }
def momentWindowsRow : OpenClaim := { program := "ythlmcoeikelheaa", sum := "b5e4e45b65cb433e8be916822cef571b58d92d4ce567b9f797d6c97a0b4e785d", func := "erewhile/erewhilelaw28.MomentWindows", spec := "momentWindows", unfollowed := true, recurses := true, apart := false }
def MomentWindowsSaid : Prop := momentWindowsRow.holds Try.pinned (OpenSpec.ofChange momentWindowsSpec)

/-- ITS FALSE NEIGHBOUR: 'it returns false'. Refute it at one input. -/
def momentWindowsWrong : ChangeSpec := { name := "momentWindows", fn := fun _ => fun
  | [d1, d2] => { results := [.lit (.bool false)], args := [d1, d2] }
  | _ => none }
def MomentWindowsWrongFalsely : Prop := momentWindowsRow.holds Try.pinned (OpenSpec.ofChange momentWindowsWrong)

/-- 'erewhilelaw28.MomentLater': WHATEVER THE INPUT: true; the input reads as it did. -/
def momentLaterSpec : ChangeSpec := { name := "momentLater", fn := fun _ => fun
  | [d1, d2, d3, d4, d5, d6] => { results := [.lit (.bool true)], args := [d1, d2, d3, d4, d5, d6] }
  | _ => none }
def momentLaterRow : OpenClaim := { program := "ythlmcoeikelheaa", sum := "b5e4e45b65cb433e8be916822cef571b58d92d4ce567b9f797d6c97a0b4e785d", func := "erewhile/erewhilelaw28.MomentLater", spec := "momentLater", unfollowed := true, recurses := true, apart := false }
def MomentLaterSaid : Prop := momentLaterRow.holds Try.pinned (OpenSpec.ofChange momentLaterSpec)

/-- ITS FALSE NEIGHBOUR: 'it returns false'. Refute it at one input. -/
def momentLaterWrong : ChangeSpec := { name := "momentLater", fn := fun _ => fun
  | [d1, d2, d3, d4, d5, d6] => { results := [.lit (.bool false)], args := [d1, d2, d3, d4, d5, d6] }
  | _ => none }
def MomentLaterWrongFalsely : Prop := momentLaterRow.holds Try.pinned (OpenSpec.ofChange momentLaterWrong)

/-- 'erewhilelaw28.MomentWitness': WHATEVER THE INPUT: true; the input reads as it did. -/
def momentWitnessSpec : ChangeSpec := { name := "momentWitness", fn := fun _ => fun
  | [d1, d2, d3, d4, d5] => { results := [.lit (.bool true)], args := [d1, d2, d3, d4, d5] }
  | _ => none }
def momentWitnessRow : OpenClaim := { program := "ythlmcoeikelheaa", sum := "b5e4e45b65cb433e8be916822cef571b58d92d4ce567b9f797d6c97a0b4e785d", func := "erewhile/erewhilelaw28.MomentWitness", spec := "momentWitness", unfollowed := true, recurses := true, apart := false }
def MomentWitnessSaid : Prop := momentWitnessRow.holds Try.pinned (OpenSpec.ofChange momentWitnessSpec)

/-- ITS FALSE NEIGHBOUR: 'it returns false'. Refute it at one input. -/
def momentWitnessWrong : ChangeSpec := { name := "momentWitness", fn := fun _ => fun
  | [d1, d2, d3, d4, d5] => { results := [.lit (.bool false)], args := [d1, d2, d3, d4, d5] }
  | _ => none }
def MomentWitnessWrongFalsely : Prop := momentWitnessRow.holds Try.pinned (OpenSpec.ofChange momentWitnessWrong)

/-- 'erewhilelaw28.MomentQuiets': WHATEVER THE INPUT: true; the input reads as it did. -/
def momentQuietsSpec : ChangeSpec := { name := "momentQuiets", fn := fun _ => fun
  | [d1, d2, d3, d4] => { results := [.lit (.bool true)], args := [d1, d2, d3, d4] }
  | _ => none }
def momentQuietsRow : OpenClaim := { program := "ythlmcoeikelheaa", sum := "b5e4e45b65cb433e8be916822cef571b58d92d4ce567b9f797d6c97a0b4e785d", func := "erewhile/erewhilelaw28.MomentQuiets", spec := "momentQuiets", unfollowed := true, recurses := true, apart := false }
def MomentQuietsSaid : Prop := momentQuietsRow.holds Try.pinned (OpenSpec.ofChange momentQuietsSpec)

/-- ITS FALSE NEIGHBOUR: 'it returns false'. Refute it at one input. -/
def momentQuietsWrong : ChangeSpec := { name := "momentQuiets", fn := fun _ => fun
  | [d1, d2, d3, d4] => { results := [.lit (.bool false)], args := [d1, d2, d3, d4] }
  | _ => none }
def MomentQuietsWrongFalsely : Prop := momentQuietsRow.holds Try.pinned (OpenSpec.ofChange momentQuietsWrong)

/-- 'erewhilelaw28.MomentLast': WHATEVER THE INPUT: true; the input reads as it did. -/
def momentLastSpec : ChangeSpec := { name := "momentLast", fn := fun _ => fun
  | [d1, d2] => { results := [.lit (.bool true)], args := [d1, d2] }
  | _ => none }
def momentLastRow : OpenClaim := { program := "ythlmcoeikelheaa", sum := "b5e4e45b65cb433e8be916822cef571b58d92d4ce567b9f797d6c97a0b4e785d", func := "erewhile/erewhilelaw28.MomentLast", spec := "momentLast", unfollowed := true, recurses := true, apart := false }
def MomentLastSaid : Prop := momentLastRow.holds Try.pinned (OpenSpec.ofChange momentLastSpec)

/-- ITS FALSE NEIGHBOUR: 'it returns false'. Refute it at one input. -/
def momentLastWrong : ChangeSpec := { name := "momentLast", fn := fun _ => fun
  | [d1, d2] => { results := [.lit (.bool false)], args := [d1, d2] }
  | _ => none }
def MomentLastWrongFalsely : Prop := momentLastRow.holds Try.pinned (OpenSpec.ofChange momentLastWrong)

/-- 'erewhilelaw28.MomentPlays': WHATEVER THE INPUT: true; the input reads as it did. -/
def momentPlaysSpec : ChangeSpec := { name := "momentPlays", fn := fun _ => fun
  | [d] => { results := [.lit (.bool true)], args := [d] }
  | _ => none }
def momentPlaysRow : OpenClaim := { program := "ythlmcoeikelheaa", sum := "b5e4e45b65cb433e8be916822cef571b58d92d4ce567b9f797d6c97a0b4e785d", func := "erewhile/erewhilelaw28.MomentPlays", spec := "momentPlays", unfollowed := true, recurses := true, apart := false }
def MomentPlaysSaid : Prop := momentPlaysRow.holds Try.pinned (OpenSpec.ofChange momentPlaysSpec)

/-- ITS FALSE NEIGHBOUR: 'it returns false'. Refute it at one input. -/
def momentPlaysWrong : ChangeSpec := { name := "momentPlays", fn := fun _ => fun
  | [d] => { results := [.lit (.bool false)], args := [d] }
  | _ => none }
def MomentPlaysWrongFalsely : Prop := momentPlaysRow.holds Try.pinned (OpenSpec.ofChange momentPlaysWrong)

/-- 'erewhilelaw28.MomentTells': WHATEVER THE INPUT: true; the input reads as it did. -/
def momentTellsSpec : ChangeSpec := { name := "momentTells", fn := fun _ => fun
  | [d1, d2, d3] => { results := [.lit (.bool true)], args := [d1, d2, d3] }
  | _ => none }
def momentTellsRow : OpenClaim := { program := "ythlmcoeikelheaa", sum := "b5e4e45b65cb433e8be916822cef571b58d92d4ce567b9f797d6c97a0b4e785d", func := "erewhile/erewhilelaw28.MomentTells", spec := "momentTells", unfollowed := true, recurses := true, apart := false }
def MomentTellsSaid : Prop := momentTellsRow.holds Try.pinned (OpenSpec.ofChange momentTellsSpec)

/-- ITS FALSE NEIGHBOUR: 'it returns false'. Refute it at one input. -/
def momentTellsWrong : ChangeSpec := { name := "momentTells", fn := fun _ => fun
  | [d1, d2, d3] => { results := [.lit (.bool false)], args := [d1, d2, d3] }
  | _ => none }
def MomentTellsWrongFalsely : Prop := momentTellsRow.holds Try.pinned (OpenSpec.ofChange momentTellsWrong)

/-- 'erewhilelaw28.MomentParts': WHATEVER THE INPUT: true; the input reads as it did. -/
def momentPartsSpec : ChangeSpec := { name := "momentParts", fn := fun _ => fun
  | [d1, d2, d3, d4] => { results := [.lit (.bool true)], args := [d1, d2, d3, d4] }
  | _ => none }
def momentPartsRow : OpenClaim := { program := "ythlmcoeikelheaa", sum := "b5e4e45b65cb433e8be916822cef571b58d92d4ce567b9f797d6c97a0b4e785d", func := "erewhile/erewhilelaw28.MomentParts", spec := "momentParts", unfollowed := true, recurses := true, apart := false }
def MomentPartsSaid : Prop := momentPartsRow.holds Try.pinned (OpenSpec.ofChange momentPartsSpec)

/-- ITS FALSE NEIGHBOUR: 'it returns false'. Refute it at one input. -/
def momentPartsWrong : ChangeSpec := { name := "momentParts", fn := fun _ => fun
  | [d1, d2, d3, d4] => { results := [.lit (.bool false)], args := [d1, d2, d3, d4] }
  | _ => none }
def MomentPartsWrongFalsely : Prop := momentPartsRow.holds Try.pinned (OpenSpec.ofChange momentPartsWrong)

/-- 'erewhilelaw28.MomentClone': WHATEVER THE INPUT: true; the input reads as it did. -/
def momentCloneSpec : ChangeSpec := { name := "momentClone", fn := fun _ => fun
  | [d1, d2, d3] => { results := [.lit (.bool true)], args := [d1, d2, d3] }
  | _ => none }
def momentCloneRow : OpenClaim := { program := "ythlmcoeikelheaa", sum := "b5e4e45b65cb433e8be916822cef571b58d92d4ce567b9f797d6c97a0b4e785d", func := "erewhile/erewhilelaw28.MomentClone", spec := "momentClone", unfollowed := true, recurses := true, apart := false }
def MomentCloneSaid : Prop := momentCloneRow.holds Try.pinned (OpenSpec.ofChange momentCloneSpec)

/-- ITS FALSE NEIGHBOUR: 'it returns false'. Refute it at one input. -/
def momentCloneWrong : ChangeSpec := { name := "momentClone", fn := fun _ => fun
  | [d1, d2, d3] => { results := [.lit (.bool false)], args := [d1, d2, d3] }
  | _ => none }
def MomentCloneWrongFalsely : Prop := momentCloneRow.holds Try.pinned (OpenSpec.ofChange momentCloneWrong)

/- THE SECOND FORM. 'bulk': how many values and letters a reading holds, each counted each time it is reached (what is shared counts as often as it is met; a slice's spare places count too). A statement '..UptoSaid' is the law's where the arguments, and the package variables that the reading takes, are together of bulk at most 1048576: NARROWER than '..Said'. Prove '..Said' where nothing that the law and all that it calls make is longer than what came in: it says more and counts as full. Else prove '..UptoSaid'. A law counts once. -/
mutual
def uptoBulk {H : Type} : DataW H → Nat
  | .lit (.string bytes) => bytes.length + 1
  | .lit _ => 1
  | .nil => 1
  | .ptr d => uptoBulk d + 1
  | .slice elems spare => uptoBulkAll elems + uptoBulkAll spare + 1
  | .agg parts => uptoBulkAll parts + 1
  | .iface _ d => uptoBulk d + 1
  | .map entries => uptoBulkEntries entries + 1
  | .held _ => 1
def uptoBulkAll {H : Type} : List (DataW H) → Nat
  | [] => 0
  | d :: r => uptoBulk d + uptoBulkAll r
def uptoBulkEntries {H : Type} : List (Lit × DataW H) → Nat
  | [] => 0
  | x :: r => uptoBulkEntry x + uptoBulkEntries r
def uptoBulkEntry {H : Type} : Lit × DataW H → Nat
  | (.string bytes, d) => bytes.length + uptoBulk d + 1
  | (_, d) => uptoBulk d + 1
 end
def uptoSmall : (H : Type) → List (DataW H) → Bool := fun _ ds => decide (uptoBulkAll ds ≤ 1048576)
def OpenSpec.upto (s : _root_.Go.ChangeSpec) : _root_.Go.OpenSpec := { _root_.Go.OpenSpec.ofChange s with cond := some uptoSmall }

/-- 'erewhilelaw28.MomentCloses', WHERE WHAT IT READS IS OF BULK AT MOST 1048576: true; the input reads as it did. -/
def momentClosesUptoRow : OpenClaim := { program := "ythlmcoeikelheaa", sum := "b5e4e45b65cb433e8be916822cef571b58d92d4ce567b9f797d6c97a0b4e785d", func := "erewhile/erewhilelaw28.MomentCloses", spec := "momentCloses", unfollowed := true, recurses := true, apart := false, narrowed := true }
def MomentClosesUptoSaid : Prop := momentClosesUptoRow.holds Try.pinned (OpenSpec.upto momentClosesSpec)

/-- 'erewhilelaw28.MomentWindows', WHERE WHAT IT READS IS OF BULK AT MOST 1048576: true; the input reads as it did. -/
def momentWindowsUptoRow : OpenClaim := { program := "ythlmcoeikelheaa", sum := "b5e4e45b65cb433e8be916822cef571b58d92d4ce567b9f797d6c97a0b4e785d", func := "erewhile/erewhilelaw28.MomentWindows", spec := "momentWindows", unfollowed := true, recurses := true, apart := false, narrowed := true }
def MomentWindowsUptoSaid : Prop := momentWindowsUptoRow.holds Try.pinned (OpenSpec.upto momentWindowsSpec)

/-- 'erewhilelaw28.MomentLater', WHERE WHAT IT READS IS OF BULK AT MOST 1048576: true; the input reads as it did. -/
def momentLaterUptoRow : OpenClaim := { program := "ythlmcoeikelheaa", sum := "b5e4e45b65cb433e8be916822cef571b58d92d4ce567b9f797d6c97a0b4e785d", func := "erewhile/erewhilelaw28.MomentLater", spec := "momentLater", unfollowed := true, recurses := true, apart := false, narrowed := true }
def MomentLaterUptoSaid : Prop := momentLaterUptoRow.holds Try.pinned (OpenSpec.upto momentLaterSpec)

/-- 'erewhilelaw28.MomentWitness', WHERE WHAT IT READS IS OF BULK AT MOST 1048576: true; the input reads as it did. -/
def momentWitnessUptoRow : OpenClaim := { program := "ythlmcoeikelheaa", sum := "b5e4e45b65cb433e8be916822cef571b58d92d4ce567b9f797d6c97a0b4e785d", func := "erewhile/erewhilelaw28.MomentWitness", spec := "momentWitness", unfollowed := true, recurses := true, apart := false, narrowed := true }
def MomentWitnessUptoSaid : Prop := momentWitnessUptoRow.holds Try.pinned (OpenSpec.upto momentWitnessSpec)

/-- 'erewhilelaw28.MomentQuiets', WHERE WHAT IT READS IS OF BULK AT MOST 1048576: true; the input reads as it did. -/
def momentQuietsUptoRow : OpenClaim := { program := "ythlmcoeikelheaa", sum := "b5e4e45b65cb433e8be916822cef571b58d92d4ce567b9f797d6c97a0b4e785d", func := "erewhile/erewhilelaw28.MomentQuiets", spec := "momentQuiets", unfollowed := true, recurses := true, apart := false, narrowed := true }
def MomentQuietsUptoSaid : Prop := momentQuietsUptoRow.holds Try.pinned (OpenSpec.upto momentQuietsSpec)

/-- 'erewhilelaw28.MomentLast', WHERE WHAT IT READS IS OF BULK AT MOST 1048576: true; the input reads as it did. -/
def momentLastUptoRow : OpenClaim := { program := "ythlmcoeikelheaa", sum := "b5e4e45b65cb433e8be916822cef571b58d92d4ce567b9f797d6c97a0b4e785d", func := "erewhile/erewhilelaw28.MomentLast", spec := "momentLast", unfollowed := true, recurses := true, apart := false, narrowed := true }
def MomentLastUptoSaid : Prop := momentLastUptoRow.holds Try.pinned (OpenSpec.upto momentLastSpec)

/-- 'erewhilelaw28.MomentPlays', WHERE WHAT IT READS IS OF BULK AT MOST 1048576: true; the input reads as it did. -/
def momentPlaysUptoRow : OpenClaim := { program := "ythlmcoeikelheaa", sum := "b5e4e45b65cb433e8be916822cef571b58d92d4ce567b9f797d6c97a0b4e785d", func := "erewhile/erewhilelaw28.MomentPlays", spec := "momentPlays", unfollowed := true, recurses := true, apart := false, narrowed := true }
def MomentPlaysUptoSaid : Prop := momentPlaysUptoRow.holds Try.pinned (OpenSpec.upto momentPlaysSpec)

/-- 'erewhilelaw28.MomentTells', WHERE WHAT IT READS IS OF BULK AT MOST 1048576: true; the input reads as it did. -/
def momentTellsUptoRow : OpenClaim := { program := "ythlmcoeikelheaa", sum := "b5e4e45b65cb433e8be916822cef571b58d92d4ce567b9f797d6c97a0b4e785d", func := "erewhile/erewhilelaw28.MomentTells", spec := "momentTells", unfollowed := true, recurses := true, apart := false, narrowed := true }
def MomentTellsUptoSaid : Prop := momentTellsUptoRow.holds Try.pinned (OpenSpec.upto momentTellsSpec)

/-- 'erewhilelaw28.MomentParts', WHERE WHAT IT READS IS OF BULK AT MOST 1048576: true; the input reads as it did. -/
def momentPartsUptoRow : OpenClaim := { program := "ythlmcoeikelheaa", sum := "b5e4e45b65cb433e8be916822cef571b58d92d4ce567b9f797d6c97a0b4e785d", func := "erewhile/erewhilelaw28.MomentParts", spec := "momentParts", unfollowed := true, recurses := true, apart := false, narrowed := true }
def MomentPartsUptoSaid : Prop := momentPartsUptoRow.holds Try.pinned (OpenSpec.upto momentPartsSpec)

/-- 'erewhilelaw28.MomentClone', WHERE WHAT IT READS IS OF BULK AT MOST 1048576: true; the input reads as it did. -/
def momentCloneUptoRow : OpenClaim := { program := "ythlmcoeikelheaa", sum := "b5e4e45b65cb433e8be916822cef571b58d92d4ce567b9f797d6c97a0b4e785d", func := "erewhile/erewhilelaw28.MomentClone", spec := "momentClone", unfollowed := true, recurses := true, apart := false, narrowed := true }
def MomentCloneUptoSaid : Prop := momentCloneUptoRow.holds Try.pinned (OpenSpec.upto momentCloneSpec)

end Rows
end Go.Proofs.Ythlmcoeikelheaa
