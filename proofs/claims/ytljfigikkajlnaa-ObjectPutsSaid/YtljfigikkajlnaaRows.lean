/-
  No cell of these rows narrows 'for every input' (looked for: loops, veiled, ifaces, maps, wideKeys, modest, calm, conditions, laid).
  DERIVED. THE GIVEN ROWS OF THIS SEAT. 7 by the template 'for every input the law returns true; each argument reads behind the call as it read before'; 0 by the template 'total and deterministic' (their statements: YtljfigikkajlnaaTotals.lean).
  GIVEN WITH THE SEED: the statements are not yours to turn. If you find one false, say at which input.
  Laid BY PROGRAM, IN A SANDBOX (cutbox-rows.mjs): the forced cells as the released guide's own fill.sh prints them over the translation 91a664ed4f5faee1… (all of the seat's roots in one cut). By AI agents, Wed Nov 11 2026. No macro, syntax, notation, axiom, sorry.
-/
import Derived.Test.YtljfigikkajlnaaChecked
import GoSem.Claim
import GoSem.ClaimJoined
import GoSem.ClaimMapViews
import Derived.JoinedTies
import Derived.KernelRfl
namespace Go.Proofs.Ytljfigikkajlnaa
/- THE CELL 'sum', in the pinned program and in every row, IS THE sha256 OF THE DUMP (.gsa) THAT YtljfigikkajlnaaProg.lean LOADS. Nothing in Lean hashes anything: it is a label: what it is worth is what the hold of that sum in a sandbox is worth. -/
noncomputable def Try.pinned : Pinned := { name := "ytljfigikkajlnaa", sum := "91a664ed4f5faee10d38264601e65ee42ed7bb47b1133c5d57c1d6784236e669", checked := Try.checked }
namespace Rows
def none {H : Type} : Left H := { results := [], args := [] }

/-- 'concordlaw13.ObjectPuts': WHATEVER THE INPUT: true; the input reads as it did. -/
def objectPutsSpec : ChangeSpec := { name := "objectPuts", fn := fun _ => fun
  | [d1, d2] => { results := [.lit (.bool true)], args := [d1, d2] }
  | _ => none }
def objectPutsRow : OpenClaim := { program := "ytljfigikkajlnaa", sum := "91a664ed4f5faee10d38264601e65ee42ed7bb47b1133c5d57c1d6784236e669", func := "concord/concordlaw13.ObjectPuts", spec := "objectPuts", unfollowed := true, recurses := true, apart := false }
def ObjectPutsSaid : Prop := objectPutsRow.holds Try.pinned (OpenSpec.ofChange objectPutsSpec)

/-- ITS FALSE NEIGHBOUR: 'it returns false'. Refute it at one input. -/
def objectPutsWrong : ChangeSpec := { name := "objectPuts", fn := fun _ => fun
  | [d1, d2] => { results := [.lit (.bool false)], args := [d1, d2] }
  | _ => none }
def ObjectPutsWrongFalsely : Prop := objectPutsRow.holds Try.pinned (OpenSpec.ofChange objectPutsWrong)

/-- 'concordlaw13.ObjectCells': WHATEVER THE INPUT: true; the input reads as it did. -/
def objectCellsSpec : ChangeSpec := { name := "objectCells", fn := fun _ => fun
  | [d] => { results := [.lit (.bool true)], args := [d] }
  | _ => none }
def objectCellsRow : OpenClaim := { program := "ytljfigikkajlnaa", sum := "91a664ed4f5faee10d38264601e65ee42ed7bb47b1133c5d57c1d6784236e669", func := "concord/concordlaw13.ObjectCells", spec := "objectCells", unfollowed := true, recurses := true, apart := false }
def ObjectCellsSaid : Prop := objectCellsRow.holds Try.pinned (OpenSpec.ofChange objectCellsSpec)

/-- ITS FALSE NEIGHBOUR: 'it returns false'. Refute it at one input. -/
def objectCellsWrong : ChangeSpec := { name := "objectCells", fn := fun _ => fun
  | [d] => { results := [.lit (.bool false)], args := [d] }
  | _ => none }
def ObjectCellsWrongFalsely : Prop := objectCellsRow.holds Try.pinned (OpenSpec.ofChange objectCellsWrong)

/-- 'concordlaw13.ObjectAsks': WHATEVER THE INPUT: true; the input reads as it did. -/
def objectAsksSpec : ChangeSpec := { name := "objectAsks", fn := fun _ => fun
  | [d1, d2, d3] => { results := [.lit (.bool true)], args := [d1, d2, d3] }
  | _ => none }
def objectAsksRow : OpenClaim := { program := "ytljfigikkajlnaa", sum := "91a664ed4f5faee10d38264601e65ee42ed7bb47b1133c5d57c1d6784236e669", func := "concord/concordlaw13.ObjectAsks", spec := "objectAsks", unfollowed := true, recurses := true, apart := false }
def ObjectAsksSaid : Prop := objectAsksRow.holds Try.pinned (OpenSpec.ofChange objectAsksSpec)

/-- ITS FALSE NEIGHBOUR: 'it returns false'. Refute it at one input. -/
def objectAsksWrong : ChangeSpec := { name := "objectAsks", fn := fun _ => fun
  | [d1, d2, d3] => { results := [.lit (.bool false)], args := [d1, d2, d3] }
  | _ => none }
def ObjectAsksWrongFalsely : Prop := objectAsksRow.holds Try.pinned (OpenSpec.ofChange objectAsksWrong)

/-- 'concordlaw13.ObjectOrder': WHATEVER THE INPUT: true; the input reads as it did. -/
def objectOrderSpec : ChangeSpec := { name := "objectOrder", fn := fun _ => fun
  | [d1, d2] => { results := [.lit (.bool true)], args := [d1, d2] }
  | _ => none }
def objectOrderRow : OpenClaim := { program := "ytljfigikkajlnaa", sum := "91a664ed4f5faee10d38264601e65ee42ed7bb47b1133c5d57c1d6784236e669", func := "concord/concordlaw13.ObjectOrder", spec := "objectOrder", unfollowed := true, recurses := true, apart := false }
def ObjectOrderSaid : Prop := objectOrderRow.holds Try.pinned (OpenSpec.ofChange objectOrderSpec)

/-- ITS FALSE NEIGHBOUR: 'it returns false'. Refute it at one input. -/
def objectOrderWrong : ChangeSpec := { name := "objectOrder", fn := fun _ => fun
  | [d1, d2] => { results := [.lit (.bool false)], args := [d1, d2] }
  | _ => none }
def ObjectOrderWrongFalsely : Prop := objectOrderRow.holds Try.pinned (OpenSpec.ofChange objectOrderWrong)

/-- 'concordlaw13.ObjectBack': WHATEVER THE INPUT: true; the input reads as it did. -/
def objectBackSpec : ChangeSpec := { name := "objectBack", fn := fun _ => fun
  | [d1, d2] => { results := [.lit (.bool true)], args := [d1, d2] }
  | _ => none }
def objectBackRow : OpenClaim := { program := "ytljfigikkajlnaa", sum := "91a664ed4f5faee10d38264601e65ee42ed7bb47b1133c5d57c1d6784236e669", func := "concord/concordlaw13.ObjectBack", spec := "objectBack", unfollowed := true, recurses := true, apart := false }
def ObjectBackSaid : Prop := objectBackRow.holds Try.pinned (OpenSpec.ofChange objectBackSpec)

/-- ITS FALSE NEIGHBOUR: 'it returns false'. Refute it at one input. -/
def objectBackWrong : ChangeSpec := { name := "objectBack", fn := fun _ => fun
  | [d1, d2] => { results := [.lit (.bool false)], args := [d1, d2] }
  | _ => none }
def ObjectBackWrongFalsely : Prop := objectBackRow.holds Try.pinned (OpenSpec.ofChange objectBackWrong)

/-- 'concordlaw13.ObjectForms': WHATEVER THE INPUT: true; the input reads as it did. -/
def objectFormsSpec : ChangeSpec := { name := "objectForms", fn := fun _ => fun
  | [d1, d2, d3, d4] => { results := [.lit (.bool true)], args := [d1, d2, d3, d4] }
  | _ => none }
def objectFormsRow : OpenClaim := { program := "ytljfigikkajlnaa", sum := "91a664ed4f5faee10d38264601e65ee42ed7bb47b1133c5d57c1d6784236e669", func := "concord/concordlaw13.ObjectForms", spec := "objectForms", unfollowed := true, recurses := true, apart := false }
def ObjectFormsSaid : Prop := objectFormsRow.holds Try.pinned (OpenSpec.ofChange objectFormsSpec)

/-- ITS FALSE NEIGHBOUR: 'it returns false'. Refute it at one input. -/
def objectFormsWrong : ChangeSpec := { name := "objectForms", fn := fun _ => fun
  | [d1, d2, d3, d4] => { results := [.lit (.bool false)], args := [d1, d2, d3, d4] }
  | _ => none }
def ObjectFormsWrongFalsely : Prop := objectFormsRow.holds Try.pinned (OpenSpec.ofChange objectFormsWrong)

/-- 'concordlaw13.ObjectMerges': WHATEVER THE INPUT: true; the input reads as it did. -/
def objectMergesSpec : ChangeSpec := { name := "objectMerges", fn := fun _ => fun
  | [d1, d2, d3] => { results := [.lit (.bool true)], args := [d1, d2, d3] }
  | _ => none }
def objectMergesRow : OpenClaim := { program := "ytljfigikkajlnaa", sum := "91a664ed4f5faee10d38264601e65ee42ed7bb47b1133c5d57c1d6784236e669", func := "concord/concordlaw13.ObjectMerges", spec := "objectMerges", unfollowed := true, recurses := true, apart := false }
def ObjectMergesSaid : Prop := objectMergesRow.holds Try.pinned (OpenSpec.ofChange objectMergesSpec)

/-- ITS FALSE NEIGHBOUR: 'it returns false'. Refute it at one input. -/
def objectMergesWrong : ChangeSpec := { name := "objectMerges", fn := fun _ => fun
  | [d1, d2, d3] => { results := [.lit (.bool false)], args := [d1, d2, d3] }
  | _ => none }
def ObjectMergesWrongFalsely : Prop := objectMergesRow.holds Try.pinned (OpenSpec.ofChange objectMergesWrong)

/- THE SECOND FORM. 'bulk': how many values and letters a reading holds, each counted each time it is reached (what is shared counts as often as it is met; a slice's spare places count too). A statement '..UptoSaid' is the law's where the arguments, and the package variables that the reading takes, are together of bulk at most 1048576: NARROWER than '..Said'. Prove '..Said' where nothing that the law and all that it calls make is longer than what came in: it says more and counts as full. Else prove '..UptoSaid'. A law counts once. -/
mutual
def uptoBulk {H : Type} : DataW H → Nat
  | .lit (.string bytes) => bytes.length + 1
  | .lit _ => 1
  | .nil => 1
  | .ptr d => uptoBulk d + 1
  | .slice elems spare => uptoBulkAll elems + uptoBulkAll spare + 1
  | .agg parts => uptoBulkAll parts + 1
  | .iface _ d => uptoBulk d + 1
  | .map entries => uptoBulkEntries entries + 1
  | .held _ => 1
def uptoBulkAll {H : Type} : List (DataW H) → Nat
  | [] => 0
  | d :: r => uptoBulk d + uptoBulkAll r
def uptoBulkEntries {H : Type} : List (Lit × DataW H) → Nat
  | [] => 0
  | x :: r => uptoBulkEntry x + uptoBulkEntries r
def uptoBulkEntry {H : Type} : Lit × DataW H → Nat
  | (.string bytes, d) => bytes.length + uptoBulk d + 1
  | (_, d) => uptoBulk d + 1
 end
def uptoSmall : (H : Type) → List (DataW H) → Bool := fun _ ds => decide (uptoBulkAll ds ≤ 1048576)
def OpenSpec.upto (s : _root_.Go.ChangeSpec) : _root_.Go.OpenSpec := { _root_.Go.OpenSpec.ofChange s with cond := some uptoSmall }

/-- 'concordlaw13.ObjectPuts', WHERE WHAT IT READS IS OF BULK AT MOST 1048576: true; the input reads as it did. -/
def objectPutsUptoRow : OpenClaim := { program := "ytljfigikkajlnaa", sum := "91a664ed4f5faee10d38264601e65ee42ed7bb47b1133c5d57c1d6784236e669", func := "concord/concordlaw13.ObjectPuts", spec := "objectPuts", unfollowed := true, recurses := true, apart := false, narrowed := true }
def ObjectPutsUptoSaid : Prop := objectPutsUptoRow.holds Try.pinned (OpenSpec.upto objectPutsSpec)

/-- 'concordlaw13.ObjectCells', WHERE WHAT IT READS IS OF BULK AT MOST 1048576: true; the input reads as it did. -/
def objectCellsUptoRow : OpenClaim := { program := "ytljfigikkajlnaa", sum := "91a664ed4f5faee10d38264601e65ee42ed7bb47b1133c5d57c1d6784236e669", func := "concord/concordlaw13.ObjectCells", spec := "objectCells", unfollowed := true, recurses := true, apart := false, narrowed := true }
def ObjectCellsUptoSaid : Prop := objectCellsUptoRow.holds Try.pinned (OpenSpec.upto objectCellsSpec)

/-- 'concordlaw13.ObjectAsks', WHERE WHAT IT READS IS OF BULK AT MOST 1048576: true; the input reads as it did. -/
def objectAsksUptoRow : OpenClaim := { program := "ytljfigikkajlnaa", sum := "91a664ed4f5faee10d38264601e65ee42ed7bb47b1133c5d57c1d6784236e669", func := "concord/concordlaw13.ObjectAsks", spec := "objectAsks", unfollowed := true, recurses := true, apart := false, narrowed := true }
def ObjectAsksUptoSaid : Prop := objectAsksUptoRow.holds Try.pinned (OpenSpec.upto objectAsksSpec)

/-- 'concordlaw13.ObjectOrder', WHERE WHAT IT READS IS OF BULK AT MOST 1048576: true; the input reads as it did. -/
def objectOrderUptoRow : OpenClaim := { program := "ytljfigikkajlnaa", sum := "91a664ed4f5faee10d38264601e65ee42ed7bb47b1133c5d57c1d6784236e669", func := "concord/concordlaw13.ObjectOrder", spec := "objectOrder", unfollowed := true, recurses := true, apart := false, narrowed := true }
def ObjectOrderUptoSaid : Prop := objectOrderUptoRow.holds Try.pinned (OpenSpec.upto objectOrderSpec)

/-- 'concordlaw13.ObjectBack', WHERE WHAT IT READS IS OF BULK AT MOST 1048576: true; the input reads as it did. -/
def objectBackUptoRow : OpenClaim := { program := "ytljfigikkajlnaa", sum := "91a664ed4f5faee10d38264601e65ee42ed7bb47b1133c5d57c1d6784236e669", func := "concord/concordlaw13.ObjectBack", spec := "objectBack", unfollowed := true, recurses := true, apart := false, narrowed := true }
def ObjectBackUptoSaid : Prop := objectBackUptoRow.holds Try.pinned (OpenSpec.upto objectBackSpec)

/-- 'concordlaw13.ObjectForms', WHERE WHAT IT READS IS OF BULK AT MOST 1048576: true; the input reads as it did. -/
def objectFormsUptoRow : OpenClaim := { program := "ytljfigikkajlnaa", sum := "91a664ed4f5faee10d38264601e65ee42ed7bb47b1133c5d57c1d6784236e669", func := "concord/concordlaw13.ObjectForms", spec := "objectForms", unfollowed := true, recurses := true, apart := false, narrowed := true }
def ObjectFormsUptoSaid : Prop := objectFormsUptoRow.holds Try.pinned (OpenSpec.upto objectFormsSpec)

/-- 'concordlaw13.ObjectMerges', WHERE WHAT IT READS IS OF BULK AT MOST 1048576: true; the input reads as it did. -/
def objectMergesUptoRow : OpenClaim := { program := "ytljfigikkajlnaa", sum := "91a664ed4f5faee10d38264601e65ee42ed7bb47b1133c5d57c1d6784236e669", func := "concord/concordlaw13.ObjectMerges", spec := "objectMerges", unfollowed := true, recurses := true, apart := false, narrowed := true }
def ObjectMergesUptoSaid : Prop := objectMergesUptoRow.holds Try.pinned (OpenSpec.upto objectMergesSpec)

end Rows
end Go.Proofs.Ytljfigikkajlnaa
