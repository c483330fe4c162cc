/-
  No cell of these rows narrows 'for every input' (looked for: loops, veiled, ifaces, maps, wideKeys, modest, calm, conditions, laid).
  DERIVED. THE GIVEN ROWS OF THIS SEAT. 6 by the template 'for every input the law returns true; each argument reads behind the call as it read before'; 0 by the template 'total and deterministic' (their statements: YtbolioeopcmfcaaTotals.lean).
  GIVEN WITH THE SEED: the statements are not yours to turn. If you find one false, say at which input.
  Laid BY PROGRAM, IN A SANDBOX (cutbox-rows.mjs): the forced cells as the released guide's own fill.sh prints them over the translation f3b28c4105818680… (all of the seat's roots in one cut). By AI agents, Wed Nov 11 2026. No macro, syntax, notation, axiom, sorry.
-/
import Derived.Test.YtbolioeopcmfcaaChecked
import GoSem.Claim
import GoSem.ClaimJoined
import GoSem.ClaimMapViews
import Derived.JoinedTies
import Derived.KernelRfl
namespace Go.Proofs.Ytbolioeopcmfcaa
/- THE CELL 'sum', in the pinned program and in every row, IS THE sha256 OF THE DUMP (.gsa) THAT YtbolioeopcmfcaaProg.lean LOADS. Nothing in Lean hashes anything: it is a label: what it is worth is what the hold of that sum in a sandbox is worth. -/
noncomputable def Try.pinned : Pinned := { name := "ytbolioeopcmfcaa", sum := "f3b28c41058186801c489d283146192d2f3b7fcb5e3f4790ff779865ad9eb0fc", checked := Try.checked }
namespace Rows
def none {H : Type} : Left H := { results := [], args := [] }

/-- 'erewhilelaw37.HoldMinutes': WHATEVER THE INPUT: true; the input reads as it did. -/
def holdMinutesSpec : ChangeSpec := { name := "holdMinutes", fn := fun _ => fun
  | [d1, d2, d3, d4] => { results := [.lit (.bool true)], args := [d1, d2, d3, d4] }
  | _ => none }
def holdMinutesRow : OpenClaim := { program := "ytbolioeopcmfcaa", sum := "f3b28c41058186801c489d283146192d2f3b7fcb5e3f4790ff779865ad9eb0fc", func := "erewhile/erewhilelaw37.HoldMinutes", spec := "holdMinutes", unfollowed := true, recurses := true, apart := false }
def HoldMinutesSaid : Prop := holdMinutesRow.holds Try.pinned (OpenSpec.ofChange holdMinutesSpec)

/-- ITS FALSE NEIGHBOUR: 'it returns false'. Refute it at one input. -/
def holdMinutesWrong : ChangeSpec := { name := "holdMinutes", fn := fun _ => fun
  | [d1, d2, d3, d4] => { results := [.lit (.bool false)], args := [d1, d2, d3, d4] }
  | _ => none }
def HoldMinutesWrongFalsely : Prop := holdMinutesRow.holds Try.pinned (OpenSpec.ofChange holdMinutesWrong)

/-- 'erewhilelaw37.HoldEnds': WHATEVER THE INPUT: true; the input reads as it did. -/
def holdEndsSpec : ChangeSpec := { name := "holdEnds", fn := fun _ => fun
  | [d1, d2, d3] => { results := [.lit (.bool true)], args := [d1, d2, d3] }
  | _ => none }
def holdEndsRow : OpenClaim := { program := "ytbolioeopcmfcaa", sum := "f3b28c41058186801c489d283146192d2f3b7fcb5e3f4790ff779865ad9eb0fc", func := "erewhile/erewhilelaw37.HoldEnds", spec := "holdEnds", unfollowed := true, recurses := true, apart := false }
def HoldEndsSaid : Prop := holdEndsRow.holds Try.pinned (OpenSpec.ofChange holdEndsSpec)

/-- ITS FALSE NEIGHBOUR: 'it returns false'. Refute it at one input. -/
def holdEndsWrong : ChangeSpec := { name := "holdEnds", fn := fun _ => fun
  | [d1, d2, d3] => { results := [.lit (.bool false)], args := [d1, d2, d3] }
  | _ => none }
def HoldEndsWrongFalsely : Prop := holdEndsRow.holds Try.pinned (OpenSpec.ofChange holdEndsWrong)

/-- 'erewhilelaw37.HoldLifts': WHATEVER THE INPUT: true; the input reads as it did. -/
def holdLiftsSpec : ChangeSpec := { name := "holdLifts", fn := fun _ => fun
  | [d1, d2, d3, d4] => { results := [.lit (.bool true)], args := [d1, d2, d3, d4] }
  | _ => none }
def holdLiftsRow : OpenClaim := { program := "ytbolioeopcmfcaa", sum := "f3b28c41058186801c489d283146192d2f3b7fcb5e3f4790ff779865ad9eb0fc", func := "erewhile/erewhilelaw37.HoldLifts", spec := "holdLifts", unfollowed := true, recurses := true, apart := false }
def HoldLiftsSaid : Prop := holdLiftsRow.holds Try.pinned (OpenSpec.ofChange holdLiftsSpec)

/-- ITS FALSE NEIGHBOUR: 'it returns false'. Refute it at one input. -/
def holdLiftsWrong : ChangeSpec := { name := "holdLifts", fn := fun _ => fun
  | [d1, d2, d3, d4] => { results := [.lit (.bool false)], args := [d1, d2, d3, d4] }
  | _ => none }
def HoldLiftsWrongFalsely : Prop := holdLiftsRow.holds Try.pinned (OpenSpec.ofChange holdLiftsWrong)

/-- 'erewhilelaw37.HoldWalks': WHATEVER THE INPUT: true; the input reads as it did. -/
def holdWalksSpec : ChangeSpec := { name := "holdWalks", fn := fun _ => fun
  | [d1, d2, d3, d4] => { results := [.lit (.bool true)], args := [d1, d2, d3, d4] }
  | _ => none }
def holdWalksRow : OpenClaim := { program := "ytbolioeopcmfcaa", sum := "f3b28c41058186801c489d283146192d2f3b7fcb5e3f4790ff779865ad9eb0fc", func := "erewhile/erewhilelaw37.HoldWalks", spec := "holdWalks", unfollowed := true, recurses := true, apart := false }
def HoldWalksSaid : Prop := holdWalksRow.holds Try.pinned (OpenSpec.ofChange holdWalksSpec)

/-- ITS FALSE NEIGHBOUR: 'it returns false'. Refute it at one input. -/
def holdWalksWrong : ChangeSpec := { name := "holdWalks", fn := fun _ => fun
  | [d1, d2, d3, d4] => { results := [.lit (.bool false)], args := [d1, d2, d3, d4] }
  | _ => none }
def HoldWalksWrongFalsely : Prop := holdWalksRow.holds Try.pinned (OpenSpec.ofChange holdWalksWrong)

/-- 'erewhilelaw37.HoldPlays': WHATEVER THE INPUT: true; the input reads as it did. -/
def holdPlaysSpec : ChangeSpec := { name := "holdPlays", fn := fun _ => fun
  | [d1, d2, d3] => { results := [.lit (.bool true)], args := [d1, d2, d3] }
  | _ => none }
def holdPlaysRow : OpenClaim := { program := "ytbolioeopcmfcaa", sum := "f3b28c41058186801c489d283146192d2f3b7fcb5e3f4790ff779865ad9eb0fc", func := "erewhile/erewhilelaw37.HoldPlays", spec := "holdPlays", unfollowed := true, recurses := true, apart := false }
def HoldPlaysSaid : Prop := holdPlaysRow.holds Try.pinned (OpenSpec.ofChange holdPlaysSpec)

/-- ITS FALSE NEIGHBOUR: 'it returns false'. Refute it at one input. -/
def holdPlaysWrong : ChangeSpec := { name := "holdPlays", fn := fun _ => fun
  | [d1, d2, d3] => { results := [.lit (.bool false)], args := [d1, d2, d3] }
  | _ => none }
def HoldPlaysWrongFalsely : Prop := holdPlaysRow.holds Try.pinned (OpenSpec.ofChange holdPlaysWrong)

/-- 'erewhilelaw37.HoldNone': WHATEVER THE INPUT: true; the input reads as it did. -/
def holdNoneSpec : ChangeSpec := { name := "holdNone", fn := fun _ => fun
  | [d1, d2, d3] => { results := [.lit (.bool true)], args := [d1, d2, d3] }
  | _ => none }
def holdNoneRow : OpenClaim := { program := "ytbolioeopcmfcaa", sum := "f3b28c41058186801c489d283146192d2f3b7fcb5e3f4790ff779865ad9eb0fc", func := "erewhile/erewhilelaw37.HoldNone", spec := "holdNone", unfollowed := true, recurses := true, apart := false }
def HoldNoneSaid : Prop := holdNoneRow.holds Try.pinned (OpenSpec.ofChange holdNoneSpec)

/-- ITS FALSE NEIGHBOUR: 'it returns false'. Refute it at one input. -/
def holdNoneWrong : ChangeSpec := { name := "holdNone", fn := fun _ => fun
  | [d1, d2, d3] => { results := [.lit (.bool false)], args := [d1, d2, d3] }
  | _ => none }
def HoldNoneWrongFalsely : Prop := holdNoneRow.holds Try.pinned (OpenSpec.ofChange holdNoneWrong)

/- THE SECOND FORM. 'bulk': how many values and letters a reading holds, each counted each time it is reached (what is shared counts as often as it is met; a slice's spare places count too). A statement '..UptoSaid' is the law's where the arguments, and the package variables that the reading takes, are together of bulk at most 1048576: NARROWER than '..Said'. Prove '..Said' where nothing that the law and all that it calls make is longer than what came in: it says more and counts as full. Else prove '..UptoSaid'. A law counts once. -/
mutual
def uptoBulk {H : Type} : DataW H → Nat
  | .lit (.string bytes) => bytes.length + 1
  | .lit _ => 1
  | .nil => 1
  | .ptr d => uptoBulk d + 1
  | .slice elems spare => uptoBulkAll elems + uptoBulkAll spare + 1
  | .agg parts => uptoBulkAll parts + 1
  | .iface _ d => uptoBulk d + 1
  | .map entries => uptoBulkEntries entries + 1
  | .held _ => 1
def uptoBulkAll {H : Type} : List (DataW H) → Nat
  | [] => 0
  | d :: r => uptoBulk d + uptoBulkAll r
def uptoBulkEntries {H : Type} : List (Lit × DataW H) → Nat
  | [] => 0
  | x :: r => uptoBulkEntry x + uptoBulkEntries r
def uptoBulkEntry {H : Type} : Lit × DataW H → Nat
  | (.string bytes, d) => bytes.length + uptoBulk d + 1
  | (_, d) => uptoBulk d + 1
 end
def uptoSmall : (H : Type) → List (DataW H) → Bool := fun _ ds => decide (uptoBulkAll ds ≤ 1048576)
def OpenSpec.upto (s : _root_.Go.ChangeSpec) : _root_.Go.OpenSpec := { _root_.Go.OpenSpec.ofChange s with cond := some uptoSmall }

/-- 'erewhilelaw37.HoldMinutes', WHERE WHAT IT READS IS OF BULK AT MOST 1048576: true; the input reads as it did. -/
def holdMinutesUptoRow : OpenClaim := { program := "ytbolioeopcmfcaa", sum := "f3b28c41058186801c489d283146192d2f3b7fcb5e3f4790ff779865ad9eb0fc", func := "erewhile/erewhilelaw37.HoldMinutes", spec := "holdMinutes", unfollowed := true, recurses := true, apart := false, narrowed := true }
def HoldMinutesUptoSaid : Prop := holdMinutesUptoRow.holds Try.pinned (OpenSpec.upto holdMinutesSpec)

/-- 'erewhilelaw37.HoldEnds', WHERE WHAT IT READS IS OF BULK AT MOST 1048576: true; the input reads as it did. -/
def holdEndsUptoRow : OpenClaim := { program := "ytbolioeopcmfcaa", sum := "f3b28c41058186801c489d283146192d2f3b7fcb5e3f4790ff779865ad9eb0fc", func := "erewhile/erewhilelaw37.HoldEnds", spec := "holdEnds", unfollowed := true, recurses := true, apart := false, narrowed := true }
def HoldEndsUptoSaid : Prop := holdEndsUptoRow.holds Try.pinned (OpenSpec.upto holdEndsSpec)

/-- 'erewhilelaw37.HoldLifts', WHERE WHAT IT READS IS OF BULK AT MOST 1048576: true; the input reads as it did. -/
def holdLiftsUptoRow : OpenClaim := { program := "ytbolioeopcmfcaa", sum := "f3b28c41058186801c489d283146192d2f3b7fcb5e3f4790ff779865ad9eb0fc", func := "erewhile/erewhilelaw37.HoldLifts", spec := "holdLifts", unfollowed := true, recurses := true, apart := false, narrowed := true }
def HoldLiftsUptoSaid : Prop := holdLiftsUptoRow.holds Try.pinned (OpenSpec.upto holdLiftsSpec)

/-- 'erewhilelaw37.HoldWalks', WHERE WHAT IT READS IS OF BULK AT MOST 1048576: true; the input reads as it did. -/
def holdWalksUptoRow : OpenClaim := { program := "ytbolioeopcmfcaa", sum := "f3b28c41058186801c489d283146192d2f3b7fcb5e3f4790ff779865ad9eb0fc", func := "erewhile/erewhilelaw37.HoldWalks", spec := "holdWalks", unfollowed := true, recurses := true, apart := false, narrowed := true }
def HoldWalksUptoSaid : Prop := holdWalksUptoRow.holds Try.pinned (OpenSpec.upto holdWalksSpec)

/-- 'erewhilelaw37.HoldPlays', WHERE WHAT IT READS IS OF BULK AT MOST 1048576: true; the input reads as it did. -/
def holdPlaysUptoRow : OpenClaim := { program := "ytbolioeopcmfcaa", sum := "f3b28c41058186801c489d283146192d2f3b7fcb5e3f4790ff779865ad9eb0fc", func := "erewhile/erewhilelaw37.HoldPlays", spec := "holdPlays", unfollowed := true, recurses := true, apart := false, narrowed := true }
def HoldPlaysUptoSaid : Prop := holdPlaysUptoRow.holds Try.pinned (OpenSpec.upto holdPlaysSpec)

/-- 'erewhilelaw37.HoldNone', WHERE WHAT IT READS IS OF BULK AT MOST 1048576: true; the input reads as it did. -/
def holdNoneUptoRow : OpenClaim := { program := "ytbolioeopcmfcaa", sum := "f3b28c41058186801c489d283146192d2f3b7fcb5e3f4790ff779865ad9eb0fc", func := "erewhile/erewhilelaw37.HoldNone", spec := "holdNone", unfollowed := true, recurses := true, apart := false, narrowed := true }
def HoldNoneUptoSaid : Prop := holdNoneUptoRow.holds Try.pinned (OpenSpec.upto holdNoneSpec)

end Rows
end Go.Proofs.Ytbolioeopcmfcaa
