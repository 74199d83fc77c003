/-
  No cell of these rows narrows 'for every input' (looked for: loops, veiled, ifaces, maps, wideKeys, modest, calm, conditions, laid).
  DERIVED. THE GIVEN ROWS OF THIS SEAT. 10 by the template 'for every input the law returns true; each argument reads behind the call as it read before'; 0 by the template 'total and deterministic' (their statements: YtejodabmddcanaaTotals.lean).
  GIVEN WITH THE SEED: the statements are not yours to turn. If you find one false, say at which input.
  Laid BY PROGRAM, IN A SANDBOX (cutbox-rows.mjs): the forced cells as the released guide's own fill.sh prints them over the translation 24d05dda90b76b9d… (all of the seat's roots in one cut). By AI agents, Wed Nov 11 2026. No macro, syntax, notation, axiom, sorry.
-/
import Derived.Test.YtejodabmddcanaaChecked
import GoSem.Claim
import GoSem.ClaimJoined
import GoSem.ClaimMapViews
import Derived.JoinedTies
import Derived.KernelRfl
namespace Go.Proofs.Ytejodabmddcanaa
/- THE CELL 'sum', in the pinned program and in every row, IS THE sha256 OF THE DUMP (.gsa) THAT YtejodabmddcanaaProg.lean LOADS. Nothing in Lean hashes anything: it is a label: what it is worth is what the hold of that sum in a sandbox is worth. -/
noncomputable def Try.pinned : Pinned := { name := "ytejodabmddcanaa", sum := "24d05dda90b76b9d470c91c2e844137a6ddc1ecbb05c06800d3cdcad89b519dd", checked := Try.checked }
namespace Rows
def none {H : Type} : Left H := { results := [], args := [] }

/-- 'concordlaw14.SegmentMerges': WHATEVER THE INPUT: true; the input reads as it did. -/
def segmentMergesSpec : ChangeSpec := { name := "segmentMerges", fn := fun _ => fun
  | [d1, d2] => { results := [.lit (.bool true)], args := [d1, d2] }
  | _ => none }
def segmentMergesRow : OpenClaim := { program := "ytejodabmddcanaa", sum := "24d05dda90b76b9d470c91c2e844137a6ddc1ecbb05c06800d3cdcad89b519dd", func := "concord/concordlaw14.SegmentMerges", spec := "segmentMerges", inPlace := ["internal/bytealg.abigen_runtime_cmpstring"], unfollowed := true, recurses := true, apart := false }
def SegmentMergesSaid : Prop := segmentMergesRow.holds Try.pinned (OpenSpec.ofChange segmentMergesSpec)

/-- ITS FALSE NEIGHBOUR: 'it returns false'. Refute it at one input. -/
def segmentMergesWrong : ChangeSpec := { name := "segmentMerges", fn := fun _ => fun
  | [d1, d2] => { results := [.lit (.bool false)], args := [d1, d2] }
  | _ => none }
def SegmentMergesWrongFalsely : Prop := segmentMergesRow.holds Try.pinned (OpenSpec.ofChange segmentMergesWrong)

/-- 'concordlaw14.SegmentPieces': WHATEVER THE INPUT: true; the input reads as it did. -/
def segmentPiecesSpec : ChangeSpec := { name := "segmentPieces", fn := fun _ => fun
  | [d1, d2] => { results := [.lit (.bool true)], args := [d1, d2] }
  | _ => none }
def segmentPiecesRow : OpenClaim := { program := "ytejodabmddcanaa", sum := "24d05dda90b76b9d470c91c2e844137a6ddc1ecbb05c06800d3cdcad89b519dd", func := "concord/concordlaw14.SegmentPieces", spec := "segmentPieces", inPlace := ["internal/bytealg.abigen_runtime_cmpstring"], unfollowed := true, recurses := true, apart := false }
def SegmentPiecesSaid : Prop := segmentPiecesRow.holds Try.pinned (OpenSpec.ofChange segmentPiecesSpec)

/-- ITS FALSE NEIGHBOUR: 'it returns false'. Refute it at one input. -/
def segmentPiecesWrong : ChangeSpec := { name := "segmentPieces", fn := fun _ => fun
  | [d1, d2] => { results := [.lit (.bool false)], args := [d1, d2] }
  | _ => none }
def SegmentPiecesWrongFalsely : Prop := segmentPiecesRow.holds Try.pinned (OpenSpec.ofChange segmentPiecesWrong)

/-- 'concordlaw14.SegmentDiffs': WHATEVER THE INPUT: true; the input reads as it did. -/
def segmentDiffsSpec : ChangeSpec := { name := "segmentDiffs", fn := fun _ => fun
  | [d1, d2] => { results := [.lit (.bool true)], args := [d1, d2] }
  | _ => none }
def segmentDiffsRow : OpenClaim := { program := "ytejodabmddcanaa", sum := "24d05dda90b76b9d470c91c2e844137a6ddc1ecbb05c06800d3cdcad89b519dd", func := "concord/concordlaw14.SegmentDiffs", spec := "segmentDiffs", inPlace := ["internal/bytealg.abigen_runtime_cmpstring"], unfollowed := true, recurses := true, apart := false }
def SegmentDiffsSaid : Prop := segmentDiffsRow.holds Try.pinned (OpenSpec.ofChange segmentDiffsSpec)

/-- ITS FALSE NEIGHBOUR: 'it returns false'. Refute it at one input. -/
def segmentDiffsWrong : ChangeSpec := { name := "segmentDiffs", fn := fun _ => fun
  | [d1, d2] => { results := [.lit (.bool false)], args := [d1, d2] }
  | _ => none }
def SegmentDiffsWrongFalsely : Prop := segmentDiffsRow.holds Try.pinned (OpenSpec.ofChange segmentDiffsWrong)

/-- 'concordlaw14.SegmentPuts': WHATEVER THE INPUT: true; the input reads as it did. -/
def segmentPutsSpec : ChangeSpec := { name := "segmentPuts", fn := fun _ => fun
  | [d1, d2, d3] => { results := [.lit (.bool true)], args := [d1, d2, d3] }
  | _ => none }
def segmentPutsRow : OpenClaim := { program := "ytejodabmddcanaa", sum := "24d05dda90b76b9d470c91c2e844137a6ddc1ecbb05c06800d3cdcad89b519dd", func := "concord/concordlaw14.SegmentPuts", spec := "segmentPuts", inPlace := ["internal/bytealg.abigen_runtime_cmpstring"], unfollowed := true, recurses := true, apart := false }
def SegmentPutsSaid : Prop := segmentPutsRow.holds Try.pinned (OpenSpec.ofChange segmentPutsSpec)

/-- ITS FALSE NEIGHBOUR: 'it returns false'. Refute it at one input. -/
def segmentPutsWrong : ChangeSpec := { name := "segmentPuts", fn := fun _ => fun
  | [d1, d2, d3] => { results := [.lit (.bool false)], args := [d1, d2, d3] }
  | _ => none }
def SegmentPutsWrongFalsely : Prop := segmentPutsRow.holds Try.pinned (OpenSpec.ofChange segmentPutsWrong)

/-- 'concordlaw14.SegmentPlaces': WHATEVER THE INPUT: true; the input reads as it did. -/
def segmentPlacesSpec : ChangeSpec := { name := "segmentPlaces", fn := fun _ => fun
  | [d1, d2] => { results := [.lit (.bool true)], args := [d1, d2] }
  | _ => none }
def segmentPlacesRow : OpenClaim := { program := "ytejodabmddcanaa", sum := "24d05dda90b76b9d470c91c2e844137a6ddc1ecbb05c06800d3cdcad89b519dd", func := "concord/concordlaw14.SegmentPlaces", spec := "segmentPlaces", apart := false }
def SegmentPlacesSaid : Prop := segmentPlacesRow.holds Try.pinned (OpenSpec.ofChange segmentPlacesSpec)

/-- ITS FALSE NEIGHBOUR: 'it returns false'. Refute it at one input. -/
def segmentPlacesWrong : ChangeSpec := { name := "segmentPlaces", fn := fun _ => fun
  | [d1, d2] => { results := [.lit (.bool false)], args := [d1, d2] }
  | _ => none }
def SegmentPlacesWrongFalsely : Prop := segmentPlacesRow.holds Try.pinned (OpenSpec.ofChange segmentPlacesWrong)

/-- 'concordlaw14.SegmentNames': WHATEVER THE INPUT: true; the input reads as it did. -/
def segmentNamesSpec : ChangeSpec := { name := "segmentNames", fn := fun _ => fun
  | [] => { results := [.lit (.bool true)], args := [] }
  | _ => none }
def segmentNamesRow : OpenClaim := { program := "ytejodabmddcanaa", sum := "24d05dda90b76b9d470c91c2e844137a6ddc1ecbb05c06800d3cdcad89b519dd", func := "concord/concordlaw14.SegmentNames", spec := "segmentNames", apart := false }
def SegmentNamesSaid : Prop := segmentNamesRow.holds Try.pinned (OpenSpec.ofChange segmentNamesSpec)

/-- ITS FALSE NEIGHBOUR: 'it returns false'. Refute it at one input. -/
def segmentNamesWrong : ChangeSpec := { name := "segmentNames", fn := fun _ => fun
  | [] => { results := [.lit (.bool false)], args := [] }
  | _ => none }
def SegmentNamesWrongFalsely : Prop := segmentNamesRow.holds Try.pinned (OpenSpec.ofChange segmentNamesWrong)

/-- 'concordlaw14.SegmentWalks': WHATEVER THE INPUT: true; the input reads as it did. -/
def segmentWalksSpec : ChangeSpec := { name := "segmentWalks", fn := fun _ => fun
  | [d] => { results := [.lit (.bool true)], args := [d] }
  | _ => none }
def segmentWalksRow : OpenClaim := { program := "ytejodabmddcanaa", sum := "24d05dda90b76b9d470c91c2e844137a6ddc1ecbb05c06800d3cdcad89b519dd", func := "concord/concordlaw14.SegmentWalks", spec := "segmentWalks", inPlace := ["internal/bytealg.abigen_runtime_cmpstring"], unfollowed := true, recurses := true, apart := false }
def SegmentWalksSaid : Prop := segmentWalksRow.holds Try.pinned (OpenSpec.ofChange segmentWalksSpec)

/-- ITS FALSE NEIGHBOUR: 'it returns false'. Refute it at one input. -/
def segmentWalksWrong : ChangeSpec := { name := "segmentWalks", fn := fun _ => fun
  | [d] => { results := [.lit (.bool false)], args := [d] }
  | _ => none }
def SegmentWalksWrongFalsely : Prop := segmentWalksRow.holds Try.pinned (OpenSpec.ofChange segmentWalksWrong)

/-- 'concordlaw14.SegmentPatches': WHATEVER THE INPUT: true; the input reads as it did. -/
def segmentPatchesSpec : ChangeSpec := { name := "segmentPatches", fn := fun _ => fun
  | [d1, d2] => { results := [.lit (.bool true)], args := [d1, d2] }
  | _ => none }
def segmentPatchesRow : OpenClaim := { program := "ytejodabmddcanaa", sum := "24d05dda90b76b9d470c91c2e844137a6ddc1ecbb05c06800d3cdcad89b519dd", func := "concord/concordlaw14.SegmentPatches", spec := "segmentPatches", inPlace := ["internal/bytealg.abigen_runtime_cmpstring"], unfollowed := true, recurses := true, apart := false }
def SegmentPatchesSaid : Prop := segmentPatchesRow.holds Try.pinned (OpenSpec.ofChange segmentPatchesSpec)

/-- ITS FALSE NEIGHBOUR: 'it returns false'. Refute it at one input. -/
def segmentPatchesWrong : ChangeSpec := { name := "segmentPatches", fn := fun _ => fun
  | [d1, d2] => { results := [.lit (.bool false)], args := [d1, d2] }
  | _ => none }
def SegmentPatchesWrongFalsely : Prop := segmentPatchesRow.holds Try.pinned (OpenSpec.ofChange segmentPatchesWrong)

/-- 'concordlaw14.SegmentForms': WHATEVER THE INPUT: true; the input reads as it did. -/
def segmentFormsSpec : ChangeSpec := { name := "segmentForms", fn := fun _ => fun
  | [d1, d2, d3] => { results := [.lit (.bool true)], args := [d1, d2, d3] }
  | _ => none }
def segmentFormsRow : OpenClaim := { program := "ytejodabmddcanaa", sum := "24d05dda90b76b9d470c91c2e844137a6ddc1ecbb05c06800d3cdcad89b519dd", func := "concord/concordlaw14.SegmentForms", spec := "segmentForms", unfollowed := true, recurses := true, apart := false }
def SegmentFormsSaid : Prop := segmentFormsRow.holds Try.pinned (OpenSpec.ofChange segmentFormsSpec)

/-- ITS FALSE NEIGHBOUR: 'it returns false'. Refute it at one input. -/
def segmentFormsWrong : ChangeSpec := { name := "segmentForms", fn := fun _ => fun
  | [d1, d2, d3] => { results := [.lit (.bool false)], args := [d1, d2, d3] }
  | _ => none }
def SegmentFormsWrongFalsely : Prop := segmentFormsRow.holds Try.pinned (OpenSpec.ofChange segmentFormsWrong)

/-- 'concordlaw14.SegmentSums': WHATEVER THE INPUT: true; the input reads as it did. -/
def segmentSumsSpec : ChangeSpec := { name := "segmentSums", fn := fun _ => fun
  | [d1, d2, d3, d4, d5] => { results := [.lit (.bool true)], args := [d1, d2, d3, d4, d5] }
  | _ => none }
def segmentSumsRow : OpenClaim := { program := "ytejodabmddcanaa", sum := "24d05dda90b76b9d470c91c2e844137a6ddc1ecbb05c06800d3cdcad89b519dd", func := "concord/concordlaw14.SegmentSums", spec := "segmentSums", inPlace := ["internal/bytealg.abigen_runtime_cmpstring"], unfollowed := true, recurses := true, apart := false }
def SegmentSumsSaid : Prop := segmentSumsRow.holds Try.pinned (OpenSpec.ofChange segmentSumsSpec)

/-- ITS FALSE NEIGHBOUR: 'it returns false'. Refute it at one input. -/
def segmentSumsWrong : ChangeSpec := { name := "segmentSums", fn := fun _ => fun
  | [d1, d2, d3, d4, d5] => { results := [.lit (.bool false)], args := [d1, d2, d3, d4, d5] }
  | _ => none }
def SegmentSumsWrongFalsely : Prop := segmentSumsRow.holds Try.pinned (OpenSpec.ofChange segmentSumsWrong)

/- THE SECOND FORM. 'bulk': how many values and letters a reading holds, each counted each time it is reached (what is shared counts as often as it is met; a slice's spare places count too). A statement '..UptoSaid' is the law's where the arguments, and the package variables that the reading takes, are together of bulk at most 1048576: NARROWER than '..Said'. Prove '..Said' where nothing that the law and all that it calls make is longer than what came in: it says more and counts as full. Else prove '..UptoSaid'. A law counts once. -/
mutual
def uptoBulk {H : Type} : DataW H → Nat
  | .lit (.string bytes) => bytes.length + 1
  | .lit _ => 1
  | .nil => 1
  | .ptr d => uptoBulk d + 1
  | .slice elems spare => uptoBulkAll elems + uptoBulkAll spare + 1
  | .agg parts => uptoBulkAll parts + 1
  | .iface _ d => uptoBulk d + 1
  | .map entries => uptoBulkEntries entries + 1
  | .held _ => 1
def uptoBulkAll {H : Type} : List (DataW H) → Nat
  | [] => 0
  | d :: r => uptoBulk d + uptoBulkAll r
def uptoBulkEntries {H : Type} : List (Lit × DataW H) → Nat
  | [] => 0
  | x :: r => uptoBulkEntry x + uptoBulkEntries r
def uptoBulkEntry {H : Type} : Lit × DataW H → Nat
  | (.string bytes, d) => bytes.length + uptoBulk d + 1
  | (_, d) => uptoBulk d + 1
 end
def uptoSmall : (H : Type) → List (DataW H) → Bool := fun _ ds => decide (uptoBulkAll ds ≤ 1048576)
def OpenSpec.upto (s : _root_.Go.ChangeSpec) : _root_.Go.OpenSpec := { _root_.Go.OpenSpec.ofChange s with cond := some uptoSmall }

/-- 'concordlaw14.SegmentMerges', WHERE WHAT IT READS IS OF BULK AT MOST 1048576: true; the input reads as it did. -/
def segmentMergesUptoRow : OpenClaim := { program := "ytejodabmddcanaa", sum := "24d05dda90b76b9d470c91c2e844137a6ddc1ecbb05c06800d3cdcad89b519dd", func := "concord/concordlaw14.SegmentMerges", spec := "segmentMerges", inPlace := ["internal/bytealg.abigen_runtime_cmpstring"], unfollowed := true, recurses := true, apart := false, narrowed := true }
def SegmentMergesUptoSaid : Prop := segmentMergesUptoRow.holds Try.pinned (OpenSpec.upto segmentMergesSpec)

/-- 'concordlaw14.SegmentPieces', WHERE WHAT IT READS IS OF BULK AT MOST 1048576: true; the input reads as it did. -/
def segmentPiecesUptoRow : OpenClaim := { program := "ytejodabmddcanaa", sum := "24d05dda90b76b9d470c91c2e844137a6ddc1ecbb05c06800d3cdcad89b519dd", func := "concord/concordlaw14.SegmentPieces", spec := "segmentPieces", inPlace := ["internal/bytealg.abigen_runtime_cmpstring"], unfollowed := true, recurses := true, apart := false, narrowed := true }
def SegmentPiecesUptoSaid : Prop := segmentPiecesUptoRow.holds Try.pinned (OpenSpec.upto segmentPiecesSpec)

/-- 'concordlaw14.SegmentDiffs', WHERE WHAT IT READS IS OF BULK AT MOST 1048576: true; the input reads as it did. -/
def segmentDiffsUptoRow : OpenClaim := { program := "ytejodabmddcanaa", sum := "24d05dda90b76b9d470c91c2e844137a6ddc1ecbb05c06800d3cdcad89b519dd", func := "concord/concordlaw14.SegmentDiffs", spec := "segmentDiffs", inPlace := ["internal/bytealg.abigen_runtime_cmpstring"], unfollowed := true, recurses := true, apart := false, narrowed := true }
def SegmentDiffsUptoSaid : Prop := segmentDiffsUptoRow.holds Try.pinned (OpenSpec.upto segmentDiffsSpec)

/-- 'concordlaw14.SegmentPuts', WHERE WHAT IT READS IS OF BULK AT MOST 1048576: true; the input reads as it did. -/
def segmentPutsUptoRow : OpenClaim := { program := "ytejodabmddcanaa", sum := "24d05dda90b76b9d470c91c2e844137a6ddc1ecbb05c06800d3cdcad89b519dd", func := "concord/concordlaw14.SegmentPuts", spec := "segmentPuts", inPlace := ["internal/bytealg.abigen_runtime_cmpstring"], unfollowed := true, recurses := true, apart := false, narrowed := true }
def SegmentPutsUptoSaid : Prop := segmentPutsUptoRow.holds Try.pinned (OpenSpec.upto segmentPutsSpec)

/-- 'concordlaw14.SegmentPlaces', WHERE WHAT IT READS IS OF BULK AT MOST 1048576: true; the input reads as it did. -/
def segmentPlacesUptoRow : OpenClaim := { program := "ytejodabmddcanaa", sum := "24d05dda90b76b9d470c91c2e844137a6ddc1ecbb05c06800d3cdcad89b519dd", func := "concord/concordlaw14.SegmentPlaces", spec := "segmentPlaces", apart := false, narrowed := true }
def SegmentPlacesUptoSaid : Prop := segmentPlacesUptoRow.holds Try.pinned (OpenSpec.upto segmentPlacesSpec)

/-- 'concordlaw14.SegmentNames', WHERE WHAT IT READS IS OF BULK AT MOST 1048576: true; the input reads as it did. -/
def segmentNamesUptoRow : OpenClaim := { program := "ytejodabmddcanaa", sum := "24d05dda90b76b9d470c91c2e844137a6ddc1ecbb05c06800d3cdcad89b519dd", func := "concord/concordlaw14.SegmentNames", spec := "segmentNames", apart := false, narrowed := true }
def SegmentNamesUptoSaid : Prop := segmentNamesUptoRow.holds Try.pinned (OpenSpec.upto segmentNamesSpec)

/-- 'concordlaw14.SegmentWalks', WHERE WHAT IT READS IS OF BULK AT MOST 1048576: true; the input reads as it did. -/
def segmentWalksUptoRow : OpenClaim := { program := "ytejodabmddcanaa", sum := "24d05dda90b76b9d470c91c2e844137a6ddc1ecbb05c06800d3cdcad89b519dd", func := "concord/concordlaw14.SegmentWalks", spec := "segmentWalks", inPlace := ["internal/bytealg.abigen_runtime_cmpstring"], unfollowed := true, recurses := true, apart := false, narrowed := true }
def SegmentWalksUptoSaid : Prop := segmentWalksUptoRow.holds Try.pinned (OpenSpec.upto segmentWalksSpec)

/-- 'concordlaw14.SegmentPatches', WHERE WHAT IT READS IS OF BULK AT MOST 1048576: true; the input reads as it did. -/
def segmentPatchesUptoRow : OpenClaim := { program := "ytejodabmddcanaa", sum := "24d05dda90b76b9d470c91c2e844137a6ddc1ecbb05c06800d3cdcad89b519dd", func := "concord/concordlaw14.SegmentPatches", spec := "segmentPatches", inPlace := ["internal/bytealg.abigen_runtime_cmpstring"], unfollowed := true, recurses := true, apart := false, narrowed := true }
def SegmentPatchesUptoSaid : Prop := segmentPatchesUptoRow.holds Try.pinned (OpenSpec.upto segmentPatchesSpec)

/-- 'concordlaw14.SegmentForms', WHERE WHAT IT READS IS OF BULK AT MOST 1048576: true; the input reads as it did. -/
def segmentFormsUptoRow : OpenClaim := { program := "ytejodabmddcanaa", sum := "24d05dda90b76b9d470c91c2e844137a6ddc1ecbb05c06800d3cdcad89b519dd", func := "concord/concordlaw14.SegmentForms", spec := "segmentForms", unfollowed := true, recurses := true, apart := false, narrowed := true }
def SegmentFormsUptoSaid : Prop := segmentFormsUptoRow.holds Try.pinned (OpenSpec.upto segmentFormsSpec)

/-- 'concordlaw14.SegmentSums', WHERE WHAT IT READS IS OF BULK AT MOST 1048576: true; the input reads as it did. -/
def segmentSumsUptoRow : OpenClaim := { program := "ytejodabmddcanaa", sum := "24d05dda90b76b9d470c91c2e844137a6ddc1ecbb05c06800d3cdcad89b519dd", func := "concord/concordlaw14.SegmentSums", spec := "segmentSums", inPlace := ["internal/bytealg.abigen_runtime_cmpstring"], unfollowed := true, recurses := true, apart := false, narrowed := true }
def SegmentSumsUptoSaid : Prop := segmentSumsUptoRow.holds Try.pinned (OpenSpec.upto segmentSumsSpec)

end Rows
end Go.Proofs.Ytejodabmddcanaa
