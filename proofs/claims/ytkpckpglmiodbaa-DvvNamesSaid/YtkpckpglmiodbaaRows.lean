/-
  No cell of these rows narrows 'for every input' (looked for: loops, veiled, ifaces, maps, wideKeys, modest, calm, conditions, laid).
  DERIVED. THE GIVEN ROWS OF THIS SEAT. 4 by the template 'for every input the law returns true; each argument reads behind the call as it read before'; 0 by the template 'total and deterministic' (their statements: YtkpckpglmiodbaaTotals.lean).
  GIVEN WITH THE SEED: the statements are not yours to turn. If you find one false, say at which input.
  Laid BY PROGRAM, IN A SANDBOX (cutbox-rows.mjs): the forced cells as the released guide's own fill.sh prints them over the translation 4f82dc51e27ec093… (all of the seat's roots in one cut). By AI agents, Wed Nov 11 2026. No macro, syntax, notation, axiom, sorry.
-/
import Derived.Test.YtkpckpglmiodbaaChecked
import GoSem.Claim
import GoSem.ClaimJoined
import GoSem.ClaimMapViews
import Derived.JoinedTies
import Derived.KernelRfl
namespace Go.Proofs.Ytkpckpglmiodbaa
/- THE CELL 'sum', in the pinned program and in every row, IS THE sha256 OF THE DUMP (.gsa) THAT YtkpckpglmiodbaaProg.lean LOADS. Nothing in Lean hashes anything: it is a label: what it is worth is what the hold of that sum in a sandbox is worth. -/
noncomputable def Try.pinned : Pinned := { name := "ytkpckpglmiodbaa", sum := "4f82dc51e27ec0930988ad0a6b29b8a09dd21f8fc54ca926f6760e1e4c67466b", checked := Try.checked }
namespace Rows
def none {H : Type} : Left H := { results := [], args := [] }

/-- 'concordlaw13.ObjectNames': WHATEVER THE INPUT: true; the input reads as it did. -/
def objectNamesSpec : ChangeSpec := { name := "objectNames", fn := fun _ => fun
  | [] => { results := [.lit (.bool true)], args := [] }
  | _ => none }
def objectNamesRow : OpenClaim := { program := "ytkpckpglmiodbaa", sum := "4f82dc51e27ec0930988ad0a6b29b8a09dd21f8fc54ca926f6760e1e4c67466b", func := "concord/concordlaw13.ObjectNames", spec := "objectNames", apart := false }
def ObjectNamesSaid : Prop := objectNamesRow.holds Try.pinned (OpenSpec.ofChange objectNamesSpec)

/-- ITS FALSE NEIGHBOUR: 'it returns false'. Refute it at one input. -/
def objectNamesWrong : ChangeSpec := { name := "objectNames", fn := fun _ => fun
  | [] => { results := [.lit (.bool false)], args := [] }
  | _ => none }
def ObjectNamesWrongFalsely : Prop := objectNamesRow.holds Try.pinned (OpenSpec.ofChange objectNamesWrong)

/-- 'concordlaw16.SketchItems': WHATEVER THE INPUT: true; the input reads as it did. -/
def sketchItemsSpec : ChangeSpec := { name := "sketchItems", fn := fun _ => fun
  | [d1, d2] => { results := [.lit (.bool true)], args := [d1, d2] }
  | _ => none }
def sketchItemsRow : OpenClaim := { program := "ytkpckpglmiodbaa", sum := "4f82dc51e27ec0930988ad0a6b29b8a09dd21f8fc54ca926f6760e1e4c67466b", func := "concord/concordlaw16.SketchItems", spec := "sketchItems", apart := false }
def SketchItemsSaid : Prop := sketchItemsRow.holds Try.pinned (OpenSpec.ofChange sketchItemsSpec)

/-- ITS FALSE NEIGHBOUR: 'it returns false'. Refute it at one input. -/
def sketchItemsWrong : ChangeSpec := { name := "sketchItems", fn := fun _ => fun
  | [d1, d2] => { results := [.lit (.bool false)], args := [d1, d2] }
  | _ => none }
def SketchItemsWrongFalsely : Prop := sketchItemsRow.holds Try.pinned (OpenSpec.ofChange sketchItemsWrong)

/-- 'concordlaw16.SketchNames': WHATEVER THE INPUT: true; the input reads as it did. -/
def sketchNamesSpec : ChangeSpec := { name := "sketchNames", fn := fun _ => fun
  | [] => { results := [.lit (.bool true)], args := [] }
  | _ => none }
def sketchNamesRow : OpenClaim := { program := "ytkpckpglmiodbaa", sum := "4f82dc51e27ec0930988ad0a6b29b8a09dd21f8fc54ca926f6760e1e4c67466b", func := "concord/concordlaw16.SketchNames", spec := "sketchNames", recurses := true, apart := false }
def SketchNamesSaid : Prop := sketchNamesRow.holds Try.pinned (OpenSpec.ofChange sketchNamesSpec)

/-- ITS FALSE NEIGHBOUR: 'it returns false'. Refute it at one input. -/
def sketchNamesWrong : ChangeSpec := { name := "sketchNames", fn := fun _ => fun
  | [] => { results := [.lit (.bool false)], args := [] }
  | _ => none }
def SketchNamesWrongFalsely : Prop := sketchNamesRow.holds Try.pinned (OpenSpec.ofChange sketchNamesWrong)

/-- 'concordlaw11.DvvNames': WHATEVER THE INPUT: true; the input reads as it did. -/
def dvvNamesSpec : ChangeSpec := { name := "dvvNames", fn := fun _ => fun
  | [] => { results := [.lit (.bool true)], args := [] }
  | _ => none }
def dvvNamesRow : OpenClaim := { program := "ytkpckpglmiodbaa", sum := "4f82dc51e27ec0930988ad0a6b29b8a09dd21f8fc54ca926f6760e1e4c67466b", func := "concord/concordlaw11.DvvNames", spec := "dvvNames", unfollowed := true, recurses := true, apart := false }
def DvvNamesSaid : Prop := dvvNamesRow.holds Try.pinned (OpenSpec.ofChange dvvNamesSpec)

/-- ITS FALSE NEIGHBOUR: 'it returns false'. Refute it at one input. -/
def dvvNamesWrong : ChangeSpec := { name := "dvvNames", fn := fun _ => fun
  | [] => { results := [.lit (.bool false)], args := [] }
  | _ => none }
def DvvNamesWrongFalsely : Prop := dvvNamesRow.holds Try.pinned (OpenSpec.ofChange dvvNamesWrong)

/- THE SECOND FORM. 'bulk': how many values and letters a reading holds, each counted each time it is reached (what is shared counts as often as it is met; a slice's spare places count too). A statement '..UptoSaid' is the law's where the arguments, and the package variables that the reading takes, are together of bulk at most 1048576: NARROWER than '..Said'. Prove '..Said' where nothing that the law and all that it calls make is longer than what came in: it says more and counts as full. Else prove '..UptoSaid'. A law counts once. -/
mutual
def uptoBulk {H : Type} : DataW H → Nat
  | .lit (.string bytes) => bytes.length + 1
  | .lit _ => 1
  | .nil => 1
  | .ptr d => uptoBulk d + 1
  | .slice elems spare => uptoBulkAll elems + uptoBulkAll spare + 1
  | .agg parts => uptoBulkAll parts + 1
  | .iface _ d => uptoBulk d + 1
  | .map entries => uptoBulkEntries entries + 1
  | .held _ => 1
def uptoBulkAll {H : Type} : List (DataW H) → Nat
  | [] => 0
  | d :: r => uptoBulk d + uptoBulkAll r
def uptoBulkEntries {H : Type} : List (Lit × DataW H) → Nat
  | [] => 0
  | x :: r => uptoBulkEntry x + uptoBulkEntries r
def uptoBulkEntry {H : Type} : Lit × DataW H → Nat
  | (.string bytes, d) => bytes.length + uptoBulk d + 1
  | (_, d) => uptoBulk d + 1
 end
def uptoSmall : (H : Type) → List (DataW H) → Bool := fun _ ds => decide (uptoBulkAll ds ≤ 1048576)
def OpenSpec.upto (s : _root_.Go.ChangeSpec) : _root_.Go.OpenSpec := { _root_.Go.OpenSpec.ofChange s with cond := some uptoSmall }

/-- 'concordlaw13.ObjectNames', WHERE WHAT IT READS IS OF BULK AT MOST 1048576: true; the input reads as it did. -/
def objectNamesUptoRow : OpenClaim := { program := "ytkpckpglmiodbaa", sum := "4f82dc51e27ec0930988ad0a6b29b8a09dd21f8fc54ca926f6760e1e4c67466b", func := "concord/concordlaw13.ObjectNames", spec := "objectNames", apart := false, narrowed := true }
def ObjectNamesUptoSaid : Prop := objectNamesUptoRow.holds Try.pinned (OpenSpec.upto objectNamesSpec)

/-- 'concordlaw16.SketchItems', WHERE WHAT IT READS IS OF BULK AT MOST 1048576: true; the input reads as it did. -/
def sketchItemsUptoRow : OpenClaim := { program := "ytkpckpglmiodbaa", sum := "4f82dc51e27ec0930988ad0a6b29b8a09dd21f8fc54ca926f6760e1e4c67466b", func := "concord/concordlaw16.SketchItems", spec := "sketchItems", apart := false, narrowed := true }
def SketchItemsUptoSaid : Prop := sketchItemsUptoRow.holds Try.pinned (OpenSpec.upto sketchItemsSpec)

/-- 'concordlaw16.SketchNames', WHERE WHAT IT READS IS OF BULK AT MOST 1048576: true; the input reads as it did. -/
def sketchNamesUptoRow : OpenClaim := { program := "ytkpckpglmiodbaa", sum := "4f82dc51e27ec0930988ad0a6b29b8a09dd21f8fc54ca926f6760e1e4c67466b", func := "concord/concordlaw16.SketchNames", spec := "sketchNames", recurses := true, apart := false, narrowed := true }
def SketchNamesUptoSaid : Prop := sketchNamesUptoRow.holds Try.pinned (OpenSpec.upto sketchNamesSpec)

/-- 'concordlaw11.DvvNames', WHERE WHAT IT READS IS OF BULK AT MOST 1048576: true; the input reads as it did. -/
def dvvNamesUptoRow : OpenClaim := { program := "ytkpckpglmiodbaa", sum := "4f82dc51e27ec0930988ad0a6b29b8a09dd21f8fc54ca926f6760e1e4c67466b", func := "concord/concordlaw11.DvvNames", spec := "dvvNames", unfollowed := true, recurses := true, apart := false, narrowed := true }
def DvvNamesUptoSaid : Prop := dvvNamesUptoRow.holds Try.pinned (OpenSpec.upto dvvNamesSpec)

end Rows
end Go.Proofs.Ytkpckpglmiodbaa
