/-
  No cell of these rows narrows 'for every input' (looked for: loops, veiled, ifaces, maps, wideKeys, modest, calm, conditions, laid).
  DERIVED. THE GIVEN ROWS OF THIS SEAT. 3 by the template 'for every input the law returns true; each argument reads behind the call as it read before'; 0 by the template 'total and deterministic' (their statements: YtalggenhnkpkhaaGreatTotals.lean).
  GIVEN WITH THE SEED: the statements are not yours to turn. If you find one false, say at which input.
  Laid BY PROGRAM, IN A SANDBOX (cutbox-rows.mjs): the forced cells as the released guide's own fill.sh prints them over the translation b81cef4845910317… (all of the seat's roots in one cut). By AI agents, Wed Nov 11 2026. No macro, syntax, notation, axiom, sorry.
-/
import Derived.Test.YtalggenhnkpkhaaGreatChecked
import GoSem.Claim
import GoSem.ClaimJoined
import GoSem.ClaimMapViews
import Derived.JoinedTies
import Derived.KernelRfl
namespace Go.Proofs.YtalggenhnkpkhaaGreat
/- THE CELL 'sum', in the pinned program and in every row, IS THE sha256 OF THE DUMP (.gsa) THAT YtalggenhnkpkhaaGreatProg.lean LOADS. Nothing in Lean hashes anything: it is a label: what it is worth is what the hold of that sum in a sandbox is worth. -/
noncomputable def Tryz.pinned : Pinned := { name := "ytalggenhnkpkhaagreat", sum := "b81cef48459103170a5135f7ee66b2928fb9ad4bf4f16c9f48e9e568ec58bca6", checked := Tryz.checked }
namespace Rows
def none {H : Type} : Left H := { results := [], args := [] }

/-- 'concordlaw20.MessageNames': WHATEVER THE INPUT: true; the input reads as it did. -/
def messageNamesSpec : ChangeSpec := { name := "messageNames", fn := fun _ => fun
  | [] => { results := [.lit (.bool true)], args := [] }
  | _ => none }
def messageNamesRow : OpenClaim := { program := "ytalggenhnkpkhaagreat", sum := "b81cef48459103170a5135f7ee66b2928fb9ad4bf4f16c9f48e9e568ec58bca6", func := "concord/concordlaw20.MessageNames", spec := "messageNames", unfollowed := true, recurses := true, apart := false }
def MessageNamesSaid : Prop := messageNamesRow.holds Tryz.pinned (OpenSpec.ofChange messageNamesSpec)

/-- ITS FALSE NEIGHBOUR: 'it returns false'. Refute it at one input. -/
def messageNamesWrong : ChangeSpec := { name := "messageNames", fn := fun _ => fun
  | [] => { results := [.lit (.bool false)], args := [] }
  | _ => none }
def MessageNamesWrongFalsely : Prop := messageNamesRow.holds Tryz.pinned (OpenSpec.ofChange messageNamesWrong)

/-- 'concordlaw20.MessageKinds': WHATEVER THE INPUT: true; the input reads as it did. -/
def messageKindsSpec : ChangeSpec := { name := "messageKinds", fn := fun _ => fun
  | [] => { results := [.lit (.bool true)], args := [] }
  | _ => none }
def messageKindsRow : OpenClaim := { program := "ytalggenhnkpkhaagreat", sum := "b81cef48459103170a5135f7ee66b2928fb9ad4bf4f16c9f48e9e568ec58bca6", func := "concord/concordlaw20.MessageKinds", spec := "messageKinds", unfollowed := true, recurses := true, apart := false }
def MessageKindsSaid : Prop := messageKindsRow.holds Tryz.pinned (OpenSpec.ofChange messageKindsSpec)

/-- ITS FALSE NEIGHBOUR: 'it returns false'. Refute it at one input. -/
def messageKindsWrong : ChangeSpec := { name := "messageKinds", fn := fun _ => fun
  | [] => { results := [.lit (.bool false)], args := [] }
  | _ => none }
def MessageKindsWrongFalsely : Prop := messageKindsRow.holds Tryz.pinned (OpenSpec.ofChange messageKindsWrong)

/-- 'concordlaw31.WitnessNames': WHATEVER THE INPUT: true; the input reads as it did. -/
def witnessNamesSpec : ChangeSpec := { name := "witnessNames", fn := fun _ => fun
  | [] => { results := [.lit (.bool true)], args := [] }
  | _ => none }
def witnessNamesRow : OpenClaim := { program := "ytalggenhnkpkhaagreat", sum := "b81cef48459103170a5135f7ee66b2928fb9ad4bf4f16c9f48e9e568ec58bca6", func := "concord/concordlaw31.WitnessNames", spec := "witnessNames", inPlace := ["internal/bytealg.abigen_runtime_cmpstring"], unfollowed := true, recurses := true, apart := false }
def WitnessNamesSaid : Prop := witnessNamesRow.holds Tryz.pinned (OpenSpec.ofChange witnessNamesSpec)

/-- ITS FALSE NEIGHBOUR: 'it returns false'. Refute it at one input. -/
def witnessNamesWrong : ChangeSpec := { name := "witnessNames", fn := fun _ => fun
  | [] => { results := [.lit (.bool false)], args := [] }
  | _ => none }
def WitnessNamesWrongFalsely : Prop := witnessNamesRow.holds Tryz.pinned (OpenSpec.ofChange witnessNamesWrong)

/- THE SECOND FORM. 'bulk': how many values and letters a reading holds, each counted each time it is reached (what is shared counts as often as it is met; a slice's spare places count too). A statement '..UptoSaid' is the law's where the arguments, and the package variables that the reading takes, are together of bulk at most 1048576: NARROWER than '..Said'. Prove '..Said' where nothing that the law and all that it calls make is longer than what came in: it says more and counts as full. Else prove '..UptoSaid'. A law counts once. -/
mutual
def uptoBulk {H : Type} : DataW H → Nat
  | .lit (.string bytes) => bytes.length + 1
  | .lit _ => 1
  | .nil => 1
  | .ptr d => uptoBulk d + 1
  | .slice elems spare => uptoBulkAll elems + uptoBulkAll spare + 1
  | .agg parts => uptoBulkAll parts + 1
  | .iface _ d => uptoBulk d + 1
  | .map entries => uptoBulkEntries entries + 1
  | .held _ => 1
def uptoBulkAll {H : Type} : List (DataW H) → Nat
  | [] => 0
  | d :: r => uptoBulk d + uptoBulkAll r
def uptoBulkEntries {H : Type} : List (Lit × DataW H) → Nat
  | [] => 0
  | x :: r => uptoBulkEntry x + uptoBulkEntries r
def uptoBulkEntry {H : Type} : Lit × DataW H → Nat
  | (.string bytes, d) => bytes.length + uptoBulk d + 1
  | (_, d) => uptoBulk d + 1
 end
def uptoSmall : (H : Type) → List (DataW H) → Bool := fun _ ds => decide (uptoBulkAll ds ≤ 1048576)
def OpenSpec.upto (s : _root_.Go.ChangeSpec) : _root_.Go.OpenSpec := { _root_.Go.OpenSpec.ofChange s with cond := some uptoSmall }

/-- 'concordlaw20.MessageNames', WHERE WHAT IT READS IS OF BULK AT MOST 1048576: true; the input reads as it did. -/
def messageNamesUptoRow : OpenClaim := { program := "ytalggenhnkpkhaagreat", sum := "b81cef48459103170a5135f7ee66b2928fb9ad4bf4f16c9f48e9e568ec58bca6", func := "concord/concordlaw20.MessageNames", spec := "messageNames", unfollowed := true, recurses := true, apart := false, narrowed := true }
def MessageNamesUptoSaid : Prop := messageNamesUptoRow.holds Tryz.pinned (OpenSpec.upto messageNamesSpec)

/-- 'concordlaw20.MessageKinds', WHERE WHAT IT READS IS OF BULK AT MOST 1048576: true; the input reads as it did. -/
def messageKindsUptoRow : OpenClaim := { program := "ytalggenhnkpkhaagreat", sum := "b81cef48459103170a5135f7ee66b2928fb9ad4bf4f16c9f48e9e568ec58bca6", func := "concord/concordlaw20.MessageKinds", spec := "messageKinds", unfollowed := true, recurses := true, apart := false, narrowed := true }
def MessageKindsUptoSaid : Prop := messageKindsUptoRow.holds Tryz.pinned (OpenSpec.upto messageKindsSpec)

/-- 'concordlaw31.WitnessNames', WHERE WHAT IT READS IS OF BULK AT MOST 1048576: true; the input reads as it did. -/
def witnessNamesUptoRow : OpenClaim := { program := "ytalggenhnkpkhaagreat", sum := "b81cef48459103170a5135f7ee66b2928fb9ad4bf4f16c9f48e9e568ec58bca6", func := "concord/concordlaw31.WitnessNames", spec := "witnessNames", inPlace := ["internal/bytealg.abigen_runtime_cmpstring"], unfollowed := true, recurses := true, apart := false, narrowed := true }
def WitnessNamesUptoSaid : Prop := witnessNamesUptoRow.holds Tryz.pinned (OpenSpec.upto witnessNamesSpec)

end Rows
end Go.Proofs.YtalggenhnkpkhaaGreat
