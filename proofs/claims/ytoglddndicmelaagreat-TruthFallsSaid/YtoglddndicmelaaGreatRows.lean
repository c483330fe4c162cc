/-
  No cell of these rows narrows 'for every input' (looked for: loops, veiled, ifaces, maps, wideKeys, modest, calm, conditions, laid).
  DERIVED. THE GIVEN ROWS OF THIS SEAT. 10 by the template 'for every input the law returns true; each argument reads behind the call as it read before'; 0 by the template 'total and deterministic' (their statements: YtoglddndicmelaaGreatTotals.lean).
  GIVEN WITH THE SEED: the statements are not yours to turn. If you find one false, say at which input.
  Laid BY PROGRAM, IN A SANDBOX (cutbox-rows.mjs): the forced cells as the released guide's own fill.sh prints them over the translation bb5c1225e7ca29b3… (all of the seat's roots in one cut). By AI agents, Wed Nov 11 2026. No macro, syntax, notation, axiom, sorry.
-/
import Derived.Test.YtoglddndicmelaaGreatChecked
import GoSem.Claim
import GoSem.ClaimJoined
import GoSem.ClaimMapViews
import Derived.JoinedTies
import Derived.KernelRfl
namespace Go.Proofs.YtoglddndicmelaaGreat
/- THE CELL 'sum', in the pinned program and in every row, IS THE sha256 OF THE DUMP (.gsa) THAT YtoglddndicmelaaGreatProg.lean LOADS. Nothing in Lean hashes anything: it is a label: what it is worth is what the hold of that sum in a sandbox is worth. -/
noncomputable def Tryz.pinned : Pinned := { name := "ytoglddndicmelaagreat", sum := "bb5c1225e7ca29b3ab127ea32d448c583c3dbaee9fdc900041bcf8fdc9ab4785", checked := Tryz.checked }
namespace Rows
def none {H : Type} : Left H := { results := [], args := [] }

/-- 'erewhilelaw54.TruthNew': WHATEVER THE INPUT: true; the input reads as it did. -/
def truthNewSpec : ChangeSpec := { name := "truthNew", fn := fun _ => fun
  | [d] => { results := [.lit (.bool true)], args := [d] }
  | _ => none }
def truthNewRow : OpenClaim := { program := "ytoglddndicmelaagreat", sum := "bb5c1225e7ca29b3ab127ea32d448c583c3dbaee9fdc900041bcf8fdc9ab4785", func := "erewhile/erewhilelaw54.TruthNew", spec := "truthNew", unfollowed := true, recurses := true, apart := false }
def TruthNewSaid : Prop := truthNewRow.holds Tryz.pinned (OpenSpec.ofChange truthNewSpec)

/-- ITS FALSE NEIGHBOUR: 'it returns false'. Refute it at one input. -/
def truthNewWrong : ChangeSpec := { name := "truthNew", fn := fun _ => fun
  | [d] => { results := [.lit (.bool false)], args := [d] }
  | _ => none }
def TruthNewWrongFalsely : Prop := truthNewRow.holds Tryz.pinned (OpenSpec.ofChange truthNewWrong)

/-- 'erewhilelaw54.TruthPlays': WHATEVER THE INPUT: true; the input reads as it did. -/
def truthPlaysSpec : ChangeSpec := { name := "truthPlays", fn := fun _ => fun
  | [d1, d2] => { results := [.lit (.bool true)], args := [d1, d2] }
  | _ => none }
def truthPlaysRow : OpenClaim := { program := "ytoglddndicmelaagreat", sum := "bb5c1225e7ca29b3ab127ea32d448c583c3dbaee9fdc900041bcf8fdc9ab4785", func := "erewhile/erewhilelaw54.TruthPlays", spec := "truthPlays", unfollowed := true, recurses := true, apart := false }
def TruthPlaysSaid : Prop := truthPlaysRow.holds Tryz.pinned (OpenSpec.ofChange truthPlaysSpec)

/-- ITS FALSE NEIGHBOUR: 'it returns false'. Refute it at one input. -/
def truthPlaysWrong : ChangeSpec := { name := "truthPlays", fn := fun _ => fun
  | [d1, d2] => { results := [.lit (.bool false)], args := [d1, d2] }
  | _ => none }
def TruthPlaysWrongFalsely : Prop := truthPlaysRow.holds Tryz.pinned (OpenSpec.ofChange truthPlaysWrong)

/-- 'erewhilelaw54.TruthReads': WHATEVER THE INPUT: true; the input reads as it did. -/
def truthReadsSpec : ChangeSpec := { name := "truthReads", fn := fun _ => fun
  | [d1, d2, d3, d4, d5] => { results := [.lit (.bool true)], args := [d1, d2, d3, d4, d5] }
  | _ => none }
def truthReadsRow : OpenClaim := { program := "ytoglddndicmelaagreat", sum := "bb5c1225e7ca29b3ab127ea32d448c583c3dbaee9fdc900041bcf8fdc9ab4785", func := "erewhile/erewhilelaw54.TruthReads", spec := "truthReads", unfollowed := true, recurses := true, apart := false }
def TruthReadsSaid : Prop := truthReadsRow.holds Tryz.pinned (OpenSpec.ofChange truthReadsSpec)

/-- ITS FALSE NEIGHBOUR: 'it returns false'. Refute it at one input. -/
def truthReadsWrong : ChangeSpec := { name := "truthReads", fn := fun _ => fun
  | [d1, d2, d3, d4, d5] => { results := [.lit (.bool false)], args := [d1, d2, d3, d4, d5] }
  | _ => none }
def TruthReadsWrongFalsely : Prop := truthReadsRow.holds Tryz.pinned (OpenSpec.ofChange truthReadsWrong)

/-- 'erewhilelaw54.TruthWrites': WHATEVER THE INPUT: true; the input reads as it did. -/
def truthWritesSpec : ChangeSpec := { name := "truthWrites", fn := fun _ => fun
  | [d1, d2, d3] => { results := [.lit (.bool true)], args := [d1, d2, d3] }
  | _ => none }
def truthWritesRow : OpenClaim := { program := "ytoglddndicmelaagreat", sum := "bb5c1225e7ca29b3ab127ea32d448c583c3dbaee9fdc900041bcf8fdc9ab4785", func := "erewhile/erewhilelaw54.TruthWrites", spec := "truthWrites", unfollowed := true, recurses := true, apart := false }
def TruthWritesSaid : Prop := truthWritesRow.holds Tryz.pinned (OpenSpec.ofChange truthWritesSpec)

/-- ITS FALSE NEIGHBOUR: 'it returns false'. Refute it at one input. -/
def truthWritesWrong : ChangeSpec := { name := "truthWrites", fn := fun _ => fun
  | [d1, d2, d3] => { results := [.lit (.bool false)], args := [d1, d2, d3] }
  | _ => none }
def TruthWritesWrongFalsely : Prop := truthWritesRow.holds Tryz.pinned (OpenSpec.ofChange truthWritesWrong)

/-- 'erewhilelaw54.TruthFork': WHATEVER THE INPUT: true; the input reads as it did. -/
def truthForkSpec : ChangeSpec := { name := "truthFork", fn := fun _ => fun
  | [d1, d2, d3, d4, d5, d6] => { results := [.lit (.bool true)], args := [d1, d2, d3, d4, d5, d6] }
  | _ => none }
def truthForkRow : OpenClaim := { program := "ytoglddndicmelaagreat", sum := "bb5c1225e7ca29b3ab127ea32d448c583c3dbaee9fdc900041bcf8fdc9ab4785", func := "erewhile/erewhilelaw54.TruthFork", spec := "truthFork", unfollowed := true, recurses := true, apart := false }
def TruthForkSaid : Prop := truthForkRow.holds Tryz.pinned (OpenSpec.ofChange truthForkSpec)

/-- ITS FALSE NEIGHBOUR: 'it returns false'. Refute it at one input. -/
def truthForkWrong : ChangeSpec := { name := "truthFork", fn := fun _ => fun
  | [d1, d2, d3, d4, d5, d6] => { results := [.lit (.bool false)], args := [d1, d2, d3, d4, d5, d6] }
  | _ => none }
def TruthForkWrongFalsely : Prop := truthForkRow.holds Tryz.pinned (OpenSpec.ofChange truthForkWrong)

/-- 'erewhilelaw54.TruthFalls': WHATEVER THE INPUT: true; the input reads as it did. -/
def truthFallsSpec : ChangeSpec := { name := "truthFalls", fn := fun _ => fun
  | [d1, d2, d3, d4, d5, d6] => { results := [.lit (.bool true)], args := [d1, d2, d3, d4, d5, d6] }
  | _ => none }
def truthFallsRow : OpenClaim := { program := "ytoglddndicmelaagreat", sum := "bb5c1225e7ca29b3ab127ea32d448c583c3dbaee9fdc900041bcf8fdc9ab4785", func := "erewhile/erewhilelaw54.TruthFalls", spec := "truthFalls", unfollowed := true, recurses := true, apart := false }
def TruthFallsSaid : Prop := truthFallsRow.holds Tryz.pinned (OpenSpec.ofChange truthFallsSpec)

/-- ITS FALSE NEIGHBOUR: 'it returns false'. Refute it at one input. -/
def truthFallsWrong : ChangeSpec := { name := "truthFalls", fn := fun _ => fun
  | [d1, d2, d3, d4, d5, d6] => { results := [.lit (.bool false)], args := [d1, d2, d3, d4, d5, d6] }
  | _ => none }
def TruthFallsWrongFalsely : Prop := truthFallsRow.holds Tryz.pinned (OpenSpec.ofChange truthFallsWrong)

/-- 'erewhilelaw54.TruthHold': WHATEVER THE INPUT: true; the input reads as it did. -/
def truthHoldSpec : ChangeSpec := { name := "truthHold", fn := fun _ => fun
  | [d1, d2, d3, d4, d5] => { results := [.lit (.bool true)], args := [d1, d2, d3, d4, d5] }
  | _ => none }
def truthHoldRow : OpenClaim := { program := "ytoglddndicmelaagreat", sum := "bb5c1225e7ca29b3ab127ea32d448c583c3dbaee9fdc900041bcf8fdc9ab4785", func := "erewhile/erewhilelaw54.TruthHold", spec := "truthHold", unfollowed := true, recurses := true, apart := false }
def TruthHoldSaid : Prop := truthHoldRow.holds Tryz.pinned (OpenSpec.ofChange truthHoldSpec)

/-- ITS FALSE NEIGHBOUR: 'it returns false'. Refute it at one input. -/
def truthHoldWrong : ChangeSpec := { name := "truthHold", fn := fun _ => fun
  | [d1, d2, d3, d4, d5] => { results := [.lit (.bool false)], args := [d1, d2, d3, d4, d5] }
  | _ => none }
def TruthHoldWrongFalsely : Prop := truthHoldRow.holds Tryz.pinned (OpenSpec.ofChange truthHoldWrong)

/-- 'erewhilelaw54.TruthNone': WHATEVER THE INPUT: true; the input reads as it did. -/
def truthNoneSpec : ChangeSpec := { name := "truthNone", fn := fun _ => fun
  | [d1, d2] => { results := [.lit (.bool true)], args := [d1, d2] }
  | _ => none }
def truthNoneRow : OpenClaim := { program := "ytoglddndicmelaagreat", sum := "bb5c1225e7ca29b3ab127ea32d448c583c3dbaee9fdc900041bcf8fdc9ab4785", func := "erewhile/erewhilelaw54.TruthNone", spec := "truthNone", unfollowed := true, recurses := true, apart := false }
def TruthNoneSaid : Prop := truthNoneRow.holds Tryz.pinned (OpenSpec.ofChange truthNoneSpec)

/-- ITS FALSE NEIGHBOUR: 'it returns false'. Refute it at one input. -/
def truthNoneWrong : ChangeSpec := { name := "truthNone", fn := fun _ => fun
  | [d1, d2] => { results := [.lit (.bool false)], args := [d1, d2] }
  | _ => none }
def TruthNoneWrongFalsely : Prop := truthNoneRow.holds Tryz.pinned (OpenSpec.ofChange truthNoneWrong)

/-- 'erewhilelaw54.TruthApart': WHATEVER THE INPUT: true; the input reads as it did. -/
def truthApartSpec : ChangeSpec := { name := "truthApart", fn := fun _ => fun
  | [d1, d2, d3, d4] => { results := [.lit (.bool true)], args := [d1, d2, d3, d4] }
  | _ => none }
def truthApartRow : OpenClaim := { program := "ytoglddndicmelaagreat", sum := "bb5c1225e7ca29b3ab127ea32d448c583c3dbaee9fdc900041bcf8fdc9ab4785", func := "erewhile/erewhilelaw54.TruthApart", spec := "truthApart", unfollowed := true, recurses := true, apart := false }
def TruthApartSaid : Prop := truthApartRow.holds Tryz.pinned (OpenSpec.ofChange truthApartSpec)

/-- ITS FALSE NEIGHBOUR: 'it returns false'. Refute it at one input. -/
def truthApartWrong : ChangeSpec := { name := "truthApart", fn := fun _ => fun
  | [d1, d2, d3, d4] => { results := [.lit (.bool false)], args := [d1, d2, d3, d4] }
  | _ => none }
def TruthApartWrongFalsely : Prop := truthApartRow.holds Tryz.pinned (OpenSpec.ofChange truthApartWrong)

/-- 'erewhilelaw54.TruthViews': WHATEVER THE INPUT: true; the input reads as it did. -/
def truthViewsSpec : ChangeSpec := { name := "truthViews", fn := fun _ => fun
  | [d1, d2] => { results := [.lit (.bool true)], args := [d1, d2] }
  | _ => none }
def truthViewsRow : OpenClaim := { program := "ytoglddndicmelaagreat", sum := "bb5c1225e7ca29b3ab127ea32d448c583c3dbaee9fdc900041bcf8fdc9ab4785", func := "erewhile/erewhilelaw54.TruthViews", spec := "truthViews", inPlace := ["slices.overlaps[erewhile/api.Spot]", "slices.overlaps[uint64]"], unfollowed := true, recurses := true, apart := false }
def TruthViewsSaid : Prop := truthViewsRow.holds Tryz.pinned (OpenSpec.ofChange truthViewsSpec)

/-- ITS FALSE NEIGHBOUR: 'it returns false'. Refute it at one input. -/
def truthViewsWrong : ChangeSpec := { name := "truthViews", fn := fun _ => fun
  | [d1, d2] => { results := [.lit (.bool false)], args := [d1, d2] }
  | _ => none }
def TruthViewsWrongFalsely : Prop := truthViewsRow.holds Tryz.pinned (OpenSpec.ofChange truthViewsWrong)

/- THE SECOND FORM. 'bulk': how many values and letters a reading holds, each counted each time it is reached (what is shared counts as often as it is met; a slice's spare places count too). A statement '..UptoSaid' is the law's where the arguments, and the package variables that the reading takes, are together of bulk at most 1048576: NARROWER than '..Said'. Prove '..Said' where nothing that the law and all that it calls make is longer than what came in: it says more and counts as full. Else prove '..UptoSaid'. A law counts once. -/
mutual
def uptoBulk {H : Type} : DataW H → Nat
  | .lit (.string bytes) => bytes.length + 1
  | .lit _ => 1
  | .nil => 1
  | .ptr d => uptoBulk d + 1
  | .slice elems spare => uptoBulkAll elems + uptoBulkAll spare + 1
  | .agg parts => uptoBulkAll parts + 1
  | .iface _ d => uptoBulk d + 1
  | .map entries => uptoBulkEntries entries + 1
  | .held _ => 1
def uptoBulkAll {H : Type} : List (DataW H) → Nat
  | [] => 0
  | d :: r => uptoBulk d + uptoBulkAll r
def uptoBulkEntries {H : Type} : List (Lit × DataW H) → Nat
  | [] => 0
  | x :: r => uptoBulkEntry x + uptoBulkEntries r
def uptoBulkEntry {H : Type} : Lit × DataW H → Nat
  | (.string bytes, d) => bytes.length + uptoBulk d + 1
  | (_, d) => uptoBulk d + 1
 end
def uptoSmall : (H : Type) → List (DataW H) → Bool := fun _ ds => decide (uptoBulkAll ds ≤ 1048576)
def OpenSpec.upto (s : _root_.Go.ChangeSpec) : _root_.Go.OpenSpec := { _root_.Go.OpenSpec.ofChange s with cond := some uptoSmall }

/-- 'erewhilelaw54.TruthNew', WHERE WHAT IT READS IS OF BULK AT MOST 1048576: true; the input reads as it did. -/
def truthNewUptoRow : OpenClaim := { program := "ytoglddndicmelaagreat", sum := "bb5c1225e7ca29b3ab127ea32d448c583c3dbaee9fdc900041bcf8fdc9ab4785", func := "erewhile/erewhilelaw54.TruthNew", spec := "truthNew", unfollowed := true, recurses := true, apart := false, narrowed := true }
def TruthNewUptoSaid : Prop := truthNewUptoRow.holds Tryz.pinned (OpenSpec.upto truthNewSpec)

/-- 'erewhilelaw54.TruthPlays', WHERE WHAT IT READS IS OF BULK AT MOST 1048576: true; the input reads as it did. -/
def truthPlaysUptoRow : OpenClaim := { program := "ytoglddndicmelaagreat", sum := "bb5c1225e7ca29b3ab127ea32d448c583c3dbaee9fdc900041bcf8fdc9ab4785", func := "erewhile/erewhilelaw54.TruthPlays", spec := "truthPlays", unfollowed := true, recurses := true, apart := false, narrowed := true }
def TruthPlaysUptoSaid : Prop := truthPlaysUptoRow.holds Tryz.pinned (OpenSpec.upto truthPlaysSpec)

/-- 'erewhilelaw54.TruthReads', WHERE WHAT IT READS IS OF BULK AT MOST 1048576: true; the input reads as it did. -/
def truthReadsUptoRow : OpenClaim := { program := "ytoglddndicmelaagreat", sum := "bb5c1225e7ca29b3ab127ea32d448c583c3dbaee9fdc900041bcf8fdc9ab4785", func := "erewhile/erewhilelaw54.TruthReads", spec := "truthReads", unfollowed := true, recurses := true, apart := false, narrowed := true }
def TruthReadsUptoSaid : Prop := truthReadsUptoRow.holds Tryz.pinned (OpenSpec.upto truthReadsSpec)

/-- 'erewhilelaw54.TruthWrites', WHERE WHAT IT READS IS OF BULK AT MOST 1048576: true; the input reads as it did. -/
def truthWritesUptoRow : OpenClaim := { program := "ytoglddndicmelaagreat", sum := "bb5c1225e7ca29b3ab127ea32d448c583c3dbaee9fdc900041bcf8fdc9ab4785", func := "erewhile/erewhilelaw54.TruthWrites", spec := "truthWrites", unfollowed := true, recurses := true, apart := false, narrowed := true }
def TruthWritesUptoSaid : Prop := truthWritesUptoRow.holds Tryz.pinned (OpenSpec.upto truthWritesSpec)

/-- 'erewhilelaw54.TruthFork', WHERE WHAT IT READS IS OF BULK AT MOST 1048576: true; the input reads as it did. -/
def truthForkUptoRow : OpenClaim := { program := "ytoglddndicmelaagreat", sum := "bb5c1225e7ca29b3ab127ea32d448c583c3dbaee9fdc900041bcf8fdc9ab4785", func := "erewhile/erewhilelaw54.TruthFork", spec := "truthFork", unfollowed := true, recurses := true, apart := false, narrowed := true }
def TruthForkUptoSaid : Prop := truthForkUptoRow.holds Tryz.pinned (OpenSpec.upto truthForkSpec)

/-- 'erewhilelaw54.TruthFalls', WHERE WHAT IT READS IS OF BULK AT MOST 1048576: true; the input reads as it did. -/
def truthFallsUptoRow : OpenClaim := { program := "ytoglddndicmelaagreat", sum := "bb5c1225e7ca29b3ab127ea32d448c583c3dbaee9fdc900041bcf8fdc9ab4785", func := "erewhile/erewhilelaw54.TruthFalls", spec := "truthFalls", unfollowed := true, recurses := true, apart := false, narrowed := true }
def TruthFallsUptoSaid : Prop := truthFallsUptoRow.holds Tryz.pinned (OpenSpec.upto truthFallsSpec)

/-- 'erewhilelaw54.TruthHold', WHERE WHAT IT READS IS OF BULK AT MOST 1048576: true; the input reads as it did. -/
def truthHoldUptoRow : OpenClaim := { program := "ytoglddndicmelaagreat", sum := "bb5c1225e7ca29b3ab127ea32d448c583c3dbaee9fdc900041bcf8fdc9ab4785", func := "erewhile/erewhilelaw54.TruthHold", spec := "truthHold", unfollowed := true, recurses := true, apart := false, narrowed := true }
def TruthHoldUptoSaid : Prop := truthHoldUptoRow.holds Tryz.pinned (OpenSpec.upto truthHoldSpec)

/-- 'erewhilelaw54.TruthNone', WHERE WHAT IT READS IS OF BULK AT MOST 1048576: true; the input reads as it did. -/
def truthNoneUptoRow : OpenClaim := { program := "ytoglddndicmelaagreat", sum := "bb5c1225e7ca29b3ab127ea32d448c583c3dbaee9fdc900041bcf8fdc9ab4785", func := "erewhile/erewhilelaw54.TruthNone", spec := "truthNone", unfollowed := true, recurses := true, apart := false, narrowed := true }
def TruthNoneUptoSaid : Prop := truthNoneUptoRow.holds Tryz.pinned (OpenSpec.upto truthNoneSpec)

/-- 'erewhilelaw54.TruthApart', WHERE WHAT IT READS IS OF BULK AT MOST 1048576: true; the input reads as it did. -/
def truthApartUptoRow : OpenClaim := { program := "ytoglddndicmelaagreat", sum := "bb5c1225e7ca29b3ab127ea32d448c583c3dbaee9fdc900041bcf8fdc9ab4785", func := "erewhile/erewhilelaw54.TruthApart", spec := "truthApart", unfollowed := true, recurses := true, apart := false, narrowed := true }
def TruthApartUptoSaid : Prop := truthApartUptoRow.holds Tryz.pinned (OpenSpec.upto truthApartSpec)

/-- 'erewhilelaw54.TruthViews', WHERE WHAT IT READS IS OF BULK AT MOST 1048576: true; the input reads as it did. -/
def truthViewsUptoRow : OpenClaim := { program := "ytoglddndicmelaagreat", sum := "bb5c1225e7ca29b3ab127ea32d448c583c3dbaee9fdc900041bcf8fdc9ab4785", func := "erewhile/erewhilelaw54.TruthViews", spec := "truthViews", inPlace := ["slices.overlaps[erewhile/api.Spot]", "slices.overlaps[uint64]"], unfollowed := true, recurses := true, apart := false, narrowed := true }
def TruthViewsUptoSaid : Prop := truthViewsUptoRow.holds Tryz.pinned (OpenSpec.upto truthViewsSpec)

end Rows
end Go.Proofs.YtoglddndicmelaaGreat
