/-
  No cell of these rows narrows 'for every input' (looked for: loops, veiled, ifaces, maps, wideKeys, modest, calm, conditions, laid).
  DERIVED. THE GIVEN ROWS OF THIS SEAT. 6 by the template 'for every input the law returns true; each argument reads behind the call as it read before'; 0 by the template 'total and deterministic' (their statements: YtpklkjekkbpeoaaTotals.lean).
  GIVEN WITH THE SEED: the statements are not yours to turn. If you find one false, say at which input.
  Laid BY PROGRAM, IN A SANDBOX (cutbox-rows.mjs): the forced cells as the released guide's own fill.sh prints them over the translation 0abde26352cdbcdc… (all of the seat's roots in one cut). By AI agents, Wed Nov 11 2026. No macro, syntax, notation, axiom, sorry.
-/
import Derived.Test.YtpklkjekkbpeoaaChecked
import GoSem.Claim
import GoSem.ClaimJoined
import GoSem.ClaimMapViews
import Derived.JoinedTies
import Derived.KernelRfl
namespace Go.Proofs.Ytpklkjekkbpeoaa
/- THE CELL 'sum', in the pinned program and in every row, IS THE sha256 OF THE DUMP (.gsa) THAT YtpklkjekkbpeoaaProg.lean LOADS. Nothing in Lean hashes anything: it is a label: what it is worth is what the hold of that sum in a sandbox is worth. -/
noncomputable def Try.pinned : Pinned := { name := "ytpklkjekkbpeoaa", sum := "0abde26352cdbcdc6bb46aa5a07e855a35c7ae6aaaea8287e947d7c428e98156", checked := Try.checked }
namespace Rows
def none {H : Type} : Left H := { results := [], args := [] }

/-- 'concordlaw16.SketchItems': WHATEVER THE INPUT: true; the input reads as it did. -/
def sketchItemsSpec : ChangeSpec := { name := "sketchItems", fn := fun _ => fun
  | [d1, d2] => { results := [.lit (.bool true)], args := [d1, d2] }
  | _ => none }
def sketchItemsRow : OpenClaim := { program := "ytpklkjekkbpeoaa", sum := "0abde26352cdbcdc6bb46aa5a07e855a35c7ae6aaaea8287e947d7c428e98156", func := "concord/concordlaw16.SketchItems", spec := "sketchItems", apart := false }
def SketchItemsSaid : Prop := sketchItemsRow.holds Try.pinned (OpenSpec.ofChange sketchItemsSpec)

/-- ITS FALSE NEIGHBOUR: 'it returns false'. Refute it at one input. -/
def sketchItemsWrong : ChangeSpec := { name := "sketchItems", fn := fun _ => fun
  | [d1, d2] => { results := [.lit (.bool false)], args := [d1, d2] }
  | _ => none }
def SketchItemsWrongFalsely : Prop := sketchItemsRow.holds Try.pinned (OpenSpec.ofChange sketchItemsWrong)

/-- 'concordlaw16.SketchNames': WHATEVER THE INPUT: true; the input reads as it did. -/
def sketchNamesSpec : ChangeSpec := { name := "sketchNames", fn := fun _ => fun
  | [] => { results := [.lit (.bool true)], args := [] }
  | _ => none }
def sketchNamesRow : OpenClaim := { program := "ytpklkjekkbpeoaa", sum := "0abde26352cdbcdc6bb46aa5a07e855a35c7ae6aaaea8287e947d7c428e98156", func := "concord/concordlaw16.SketchNames", spec := "sketchNames", recurses := true, apart := false }
def SketchNamesSaid : Prop := sketchNamesRow.holds Try.pinned (OpenSpec.ofChange sketchNamesSpec)

/-- ITS FALSE NEIGHBOUR: 'it returns false'. Refute it at one input. -/
def sketchNamesWrong : ChangeSpec := { name := "sketchNames", fn := fun _ => fun
  | [] => { results := [.lit (.bool false)], args := [] }
  | _ => none }
def SketchNamesWrongFalsely : Prop := sketchNamesRow.holds Try.pinned (OpenSpec.ofChange sketchNamesWrong)

/-- 'concordlaw16.SketchOne': WHATEVER THE INPUT: true; the input reads as it did. -/
def sketchOneSpec : ChangeSpec := { name := "sketchOne", fn := fun _ => fun
  | [d1, d2, d3] => { results := [.lit (.bool true)], args := [d1, d2, d3] }
  | _ => none }
def sketchOneRow : OpenClaim := { program := "ytpklkjekkbpeoaa", sum := "0abde26352cdbcdc6bb46aa5a07e855a35c7ae6aaaea8287e947d7c428e98156", func := "concord/concordlaw16.SketchOne", spec := "sketchOne", recurses := true, apart := false }
def SketchOneSaid : Prop := sketchOneRow.holds Try.pinned (OpenSpec.ofChange sketchOneSpec)

/-- ITS FALSE NEIGHBOUR: 'it returns false'. Refute it at one input. -/
def sketchOneWrong : ChangeSpec := { name := "sketchOne", fn := fun _ => fun
  | [d1, d2, d3] => { results := [.lit (.bool false)], args := [d1, d2, d3] }
  | _ => none }
def SketchOneWrongFalsely : Prop := sketchOneRow.holds Try.pinned (OpenSpec.ofChange sketchOneWrong)

/-- 'concordlaw16.SketchPeels': WHATEVER THE INPUT: true; the input reads as it did. -/
def sketchPeelsSpec : ChangeSpec := { name := "sketchPeels", fn := fun _ => fun
  | [d] => { results := [.lit (.bool true)], args := [d] }
  | _ => none }
def sketchPeelsRow : OpenClaim := { program := "ytpklkjekkbpeoaa", sum := "0abde26352cdbcdc6bb46aa5a07e855a35c7ae6aaaea8287e947d7c428e98156", func := "concord/concordlaw16.SketchPeels", spec := "sketchPeels", recurses := true, apart := false }
def SketchPeelsSaid : Prop := sketchPeelsRow.holds Try.pinned (OpenSpec.ofChange sketchPeelsSpec)

/-- ITS FALSE NEIGHBOUR: 'it returns false'. Refute it at one input. -/
def sketchPeelsWrong : ChangeSpec := { name := "sketchPeels", fn := fun _ => fun
  | [d] => { results := [.lit (.bool false)], args := [d] }
  | _ => none }
def SketchPeelsWrongFalsely : Prop := sketchPeelsRow.holds Try.pinned (OpenSpec.ofChange sketchPeelsWrong)

/-- 'concordlaw16.SketchSums': WHATEVER THE INPUT: true; the input reads as it did. -/
def sketchSumsSpec : ChangeSpec := { name := "sketchSums", fn := fun _ => fun
  | [d1, d2, d3] => { results := [.lit (.bool true)], args := [d1, d2, d3] }
  | _ => none }
def sketchSumsRow : OpenClaim := { program := "ytpklkjekkbpeoaa", sum := "0abde26352cdbcdc6bb46aa5a07e855a35c7ae6aaaea8287e947d7c428e98156", func := "concord/concordlaw16.SketchSums", spec := "sketchSums", recurses := true, apart := false }
def SketchSumsSaid : Prop := sketchSumsRow.holds Try.pinned (OpenSpec.ofChange sketchSumsSpec)

/-- ITS FALSE NEIGHBOUR: 'it returns false'. Refute it at one input. -/
def sketchSumsWrong : ChangeSpec := { name := "sketchSums", fn := fun _ => fun
  | [d1, d2, d3] => { results := [.lit (.bool false)], args := [d1, d2, d3] }
  | _ => none }
def SketchSumsWrongFalsely : Prop := sketchSumsRow.holds Try.pinned (OpenSpec.ofChange sketchSumsWrong)

/-- 'concordlaw16.SketchPlays': WHATEVER THE INPUT: true; the input reads as it did. -/
def sketchPlaysSpec : ChangeSpec := { name := "sketchPlays", fn := fun _ => fun
  | [d1, d2] => { results := [.lit (.bool true)], args := [d1, d2] }
  | _ => none }
def sketchPlaysRow : OpenClaim := { program := "ytpklkjekkbpeoaa", sum := "0abde26352cdbcdc6bb46aa5a07e855a35c7ae6aaaea8287e947d7c428e98156", func := "concord/concordlaw16.SketchPlays", spec := "sketchPlays", recurses := true, apart := false }
def SketchPlaysSaid : Prop := sketchPlaysRow.holds Try.pinned (OpenSpec.ofChange sketchPlaysSpec)

/-- ITS FALSE NEIGHBOUR: 'it returns false'. Refute it at one input. -/
def sketchPlaysWrong : ChangeSpec := { name := "sketchPlays", fn := fun _ => fun
  | [d1, d2] => { results := [.lit (.bool false)], args := [d1, d2] }
  | _ => none }
def SketchPlaysWrongFalsely : Prop := sketchPlaysRow.holds Try.pinned (OpenSpec.ofChange sketchPlaysWrong)

/- THE SECOND FORM. 'bulk': how many values and letters a reading holds, each counted each time it is reached (what is shared counts as often as it is met; a slice's spare places count too). A statement '..UptoSaid' is the law's where the arguments, and the package variables that the reading takes, are together of bulk at most 1048576: NARROWER than '..Said'. Prove '..Said' where nothing that the law and all that it calls make is longer than what came in: it says more and counts as full. Else prove '..UptoSaid'. A law counts once. -/
mutual
def uptoBulk {H : Type} : DataW H → Nat
  | .lit (.string bytes) => bytes.length + 1
  | .lit _ => 1
  | .nil => 1
  | .ptr d => uptoBulk d + 1
  | .slice elems spare => uptoBulkAll elems + uptoBulkAll spare + 1
  | .agg parts => uptoBulkAll parts + 1
  | .iface _ d => uptoBulk d + 1
  | .map entries => uptoBulkEntries entries + 1
  | .held _ => 1
def uptoBulkAll {H : Type} : List (DataW H) → Nat
  | [] => 0
  | d :: r => uptoBulk d + uptoBulkAll r
def uptoBulkEntries {H : Type} : List (Lit × DataW H) → Nat
  | [] => 0
  | x :: r => uptoBulkEntry x + uptoBulkEntries r
def uptoBulkEntry {H : Type} : Lit × DataW H → Nat
  | (.string bytes, d) => bytes.length + uptoBulk d + 1
  | (_, d) => uptoBulk d + 1
 end
def uptoSmall : (H : Type) → List (DataW H) → Bool := fun _ ds => decide (uptoBulkAll ds ≤ 1048576)
def OpenSpec.upto (s : _root_.Go.ChangeSpec) : _root_.Go.OpenSpec := { _root_.Go.OpenSpec.ofChange s with cond := some uptoSmall }

/-- 'concordlaw16.SketchItems', WHERE WHAT IT READS IS OF BULK AT MOST 1048576: true; the input reads as it did. -/
def sketchItemsUptoRow : OpenClaim := { program := "ytpklkjekkbpeoaa", sum := "0abde26352cdbcdc6bb46aa5a07e855a35c7ae6aaaea8287e947d7c428e98156", func := "concord/concordlaw16.SketchItems", spec := "sketchItems", apart := false, narrowed := true }
def SketchItemsUptoSaid : Prop := sketchItemsUptoRow.holds Try.pinned (OpenSpec.upto sketchItemsSpec)

/-- 'concordlaw16.SketchNames', WHERE WHAT IT READS IS OF BULK AT MOST 1048576: true; the input reads as it did. -/
def sketchNamesUptoRow : OpenClaim := { program := "ytpklkjekkbpeoaa", sum := "0abde26352cdbcdc6bb46aa5a07e855a35c7ae6aaaea8287e947d7c428e98156", func := "concord/concordlaw16.SketchNames", spec := "sketchNames", recurses := true, apart := false, narrowed := true }
def SketchNamesUptoSaid : Prop := sketchNamesUptoRow.holds Try.pinned (OpenSpec.upto sketchNamesSpec)

/-- 'concordlaw16.SketchOne', WHERE WHAT IT READS IS OF BULK AT MOST 1048576: true; the input reads as it did. -/
def sketchOneUptoRow : OpenClaim := { program := "ytpklkjekkbpeoaa", sum := "0abde26352cdbcdc6bb46aa5a07e855a35c7ae6aaaea8287e947d7c428e98156", func := "concord/concordlaw16.SketchOne", spec := "sketchOne", recurses := true, apart := false, narrowed := true }
def SketchOneUptoSaid : Prop := sketchOneUptoRow.holds Try.pinned (OpenSpec.upto sketchOneSpec)

/-- 'concordlaw16.SketchPeels', WHERE WHAT IT READS IS OF BULK AT MOST 1048576: true; the input reads as it did. -/
def sketchPeelsUptoRow : OpenClaim := { program := "ytpklkjekkbpeoaa", sum := "0abde26352cdbcdc6bb46aa5a07e855a35c7ae6aaaea8287e947d7c428e98156", func := "concord/concordlaw16.SketchPeels", spec := "sketchPeels", recurses := true, apart := false, narrowed := true }
def SketchPeelsUptoSaid : Prop := sketchPeelsUptoRow.holds Try.pinned (OpenSpec.upto sketchPeelsSpec)

/-- 'concordlaw16.SketchSums', WHERE WHAT IT READS IS OF BULK AT MOST 1048576: true; the input reads as it did. -/
def sketchSumsUptoRow : OpenClaim := { program := "ytpklkjekkbpeoaa", sum := "0abde26352cdbcdc6bb46aa5a07e855a35c7ae6aaaea8287e947d7c428e98156", func := "concord/concordlaw16.SketchSums", spec := "sketchSums", recurses := true, apart := false, narrowed := true }
def SketchSumsUptoSaid : Prop := sketchSumsUptoRow.holds Try.pinned (OpenSpec.upto sketchSumsSpec)

/-- 'concordlaw16.SketchPlays', WHERE WHAT IT READS IS OF BULK AT MOST 1048576: true; the input reads as it did. -/
def sketchPlaysUptoRow : OpenClaim := { program := "ytpklkjekkbpeoaa", sum := "0abde26352cdbcdc6bb46aa5a07e855a35c7ae6aaaea8287e947d7c428e98156", func := "concord/concordlaw16.SketchPlays", spec := "sketchPlays", recurses := true, apart := false, narrowed := true }
def SketchPlaysUptoSaid : Prop := sketchPlaysUptoRow.holds Try.pinned (OpenSpec.upto sketchPlaysSpec)

end Rows
end Go.Proofs.Ytpklkjekkbpeoaa
