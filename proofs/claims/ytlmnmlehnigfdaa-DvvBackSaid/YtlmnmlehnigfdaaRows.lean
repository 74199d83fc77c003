/-
  No cell of these rows narrows 'for every input' (looked for: loops, veiled, ifaces, maps, wideKeys, modest, calm, conditions, laid).
  DERIVED. THE GIVEN ROWS OF THIS SEAT. 9 by the template 'for every input the law returns true; each argument reads behind the call as it read before'; 0 by the template 'total and deterministic' (their statements: YtlmnmlehnigfdaaTotals.lean).
  GIVEN WITH THE SEED: the statements are not yours to turn. If you find one false, say at which input.
  Laid BY PROGRAM, IN A SANDBOX (cutbox-rows.mjs): the forced cells as the released guide's own fill.sh prints them over the translation 9c7396c5bf223a86… (all of the seat's roots in one cut). By AI agents, Wed Nov 11 2026. No macro, syntax, notation, axiom, sorry.
-/
import Derived.Test.YtlmnmlehnigfdaaChecked
import GoSem.Claim
import GoSem.ClaimJoined
import GoSem.ClaimMapViews
import Derived.JoinedTies
import Derived.KernelRfl
namespace Go.Proofs.Ytlmnmlehnigfdaa
/- THE CELL 'sum', in the pinned program and in every row, IS THE sha256 OF THE DUMP (.gsa) THAT YtlmnmlehnigfdaaProg.lean LOADS. Nothing in Lean hashes anything: it is a label: what it is worth is what the hold of that sum in a sandbox is worth. -/
noncomputable def Try.pinned : Pinned := { name := "ytlmnmlehnigfdaa", sum := "9c7396c5bf223a861195e180b006ba610bdc0900bd69c3396902bb1dcb24ccd5", checked := Try.checked }
namespace Rows
def none {H : Type} : Left H := { results := [], args := [] }

/-- 'concordlaw11.DvvPuts': WHATEVER THE INPUT: true; the input reads as it did. -/
def dvvPutsSpec : ChangeSpec := { name := "dvvPuts", fn := fun _ => fun
  | [d1, d2] => { results := [.lit (.bool true)], args := [d1, d2] }
  | _ => none }
def dvvPutsRow : OpenClaim := { program := "ytlmnmlehnigfdaa", sum := "9c7396c5bf223a861195e180b006ba610bdc0900bd69c3396902bb1dcb24ccd5", func := "concord/concordlaw11.DvvPuts", spec := "dvvPuts", unfollowed := true, recurses := true, apart := false }
def DvvPutsSaid : Prop := dvvPutsRow.holds Try.pinned (OpenSpec.ofChange dvvPutsSpec)

/-- ITS FALSE NEIGHBOUR: 'it returns false'. Refute it at one input. -/
def dvvPutsWrong : ChangeSpec := { name := "dvvPuts", fn := fun _ => fun
  | [d1, d2] => { results := [.lit (.bool false)], args := [d1, d2] }
  | _ => none }
def DvvPutsWrongFalsely : Prop := dvvPutsRow.holds Try.pinned (OpenSpec.ofChange dvvPutsWrong)

/-- 'concordlaw11.DvvJoins': WHATEVER THE INPUT: true; the input reads as it did. -/
def dvvJoinsSpec : ChangeSpec := { name := "dvvJoins", fn := fun _ => fun
  | [d1, d2] => { results := [.lit (.bool true)], args := [d1, d2] }
  | _ => none }
def dvvJoinsRow : OpenClaim := { program := "ytlmnmlehnigfdaa", sum := "9c7396c5bf223a861195e180b006ba610bdc0900bd69c3396902bb1dcb24ccd5", func := "concord/concordlaw11.DvvJoins", spec := "dvvJoins", unfollowed := true, recurses := true, apart := false }
def DvvJoinsSaid : Prop := dvvJoinsRow.holds Try.pinned (OpenSpec.ofChange dvvJoinsSpec)

/-- ITS FALSE NEIGHBOUR: 'it returns false'. Refute it at one input. -/
def dvvJoinsWrong : ChangeSpec := { name := "dvvJoins", fn := fun _ => fun
  | [d1, d2] => { results := [.lit (.bool false)], args := [d1, d2] }
  | _ => none }
def DvvJoinsWrongFalsely : Prop := dvvJoinsRow.holds Try.pinned (OpenSpec.ofChange dvvJoinsWrong)

/-- 'concordlaw11.DvvBytes': WHATEVER THE INPUT: true; the input reads as it did. -/
def dvvBytesSpec : ChangeSpec := { name := "dvvBytes", fn := fun _ => fun
  | [d1, d2] => { results := [.lit (.bool true)], args := [d1, d2] }
  | _ => none }
def dvvBytesRow : OpenClaim := { program := "ytlmnmlehnigfdaa", sum := "9c7396c5bf223a861195e180b006ba610bdc0900bd69c3396902bb1dcb24ccd5", func := "concord/concordlaw11.DvvBytes", spec := "dvvBytes", unfollowed := true, recurses := true, apart := false }
def DvvBytesSaid : Prop := dvvBytesRow.holds Try.pinned (OpenSpec.ofChange dvvBytesSpec)

/-- ITS FALSE NEIGHBOUR: 'it returns false'. Refute it at one input. -/
def dvvBytesWrong : ChangeSpec := { name := "dvvBytes", fn := fun _ => fun
  | [d1, d2] => { results := [.lit (.bool false)], args := [d1, d2] }
  | _ => none }
def DvvBytesWrongFalsely : Prop := dvvBytesRow.holds Try.pinned (OpenSpec.ofChange dvvBytesWrong)

/-- 'concordlaw11.DvvNames': WHATEVER THE INPUT: true; the input reads as it did. -/
def dvvNamesSpec : ChangeSpec := { name := "dvvNames", fn := fun _ => fun
  | [] => { results := [.lit (.bool true)], args := [] }
  | _ => none }
def dvvNamesRow : OpenClaim := { program := "ytlmnmlehnigfdaa", sum := "9c7396c5bf223a861195e180b006ba610bdc0900bd69c3396902bb1dcb24ccd5", func := "concord/concordlaw11.DvvNames", spec := "dvvNames", unfollowed := true, recurses := true, apart := false }
def DvvNamesSaid : Prop := dvvNamesRow.holds Try.pinned (OpenSpec.ofChange dvvNamesSpec)

/-- ITS FALSE NEIGHBOUR: 'it returns false'. Refute it at one input. -/
def dvvNamesWrong : ChangeSpec := { name := "dvvNames", fn := fun _ => fun
  | [] => { results := [.lit (.bool false)], args := [] }
  | _ => none }
def DvvNamesWrongFalsely : Prop := dvvNamesRow.holds Try.pinned (OpenSpec.ofChange dvvNamesWrong)

/-- 'concordlaw11.DvvAsks': WHATEVER THE INPUT: true; the input reads as it did. -/
def dvvAsksSpec : ChangeSpec := { name := "dvvAsks", fn := fun _ => fun
  | [d1, d2] => { results := [.lit (.bool true)], args := [d1, d2] }
  | _ => none }
def dvvAsksRow : OpenClaim := { program := "ytlmnmlehnigfdaa", sum := "9c7396c5bf223a861195e180b006ba610bdc0900bd69c3396902bb1dcb24ccd5", func := "concord/concordlaw11.DvvAsks", spec := "dvvAsks", unfollowed := true, recurses := true, apart := false }
def DvvAsksSaid : Prop := dvvAsksRow.holds Try.pinned (OpenSpec.ofChange dvvAsksSpec)

/-- ITS FALSE NEIGHBOUR: 'it returns false'. Refute it at one input. -/
def dvvAsksWrong : ChangeSpec := { name := "dvvAsks", fn := fun _ => fun
  | [d1, d2] => { results := [.lit (.bool false)], args := [d1, d2] }
  | _ => none }
def DvvAsksWrongFalsely : Prop := dvvAsksRow.holds Try.pinned (OpenSpec.ofChange dvvAsksWrong)

/-- 'concordlaw11.DvvLattice': WHATEVER THE INPUT: true; the input reads as it did. -/
def dvvLatticeSpec : ChangeSpec := { name := "dvvLattice", fn := fun _ => fun
  | [d1, d2, d3] => { results := [.lit (.bool true)], args := [d1, d2, d3] }
  | _ => none }
def dvvLatticeRow : OpenClaim := { program := "ytlmnmlehnigfdaa", sum := "9c7396c5bf223a861195e180b006ba610bdc0900bd69c3396902bb1dcb24ccd5", func := "concord/concordlaw11.DvvLattice", spec := "dvvLattice", unfollowed := true, recurses := true, apart := false }
def DvvLatticeSaid : Prop := dvvLatticeRow.holds Try.pinned (OpenSpec.ofChange dvvLatticeSpec)

/-- ITS FALSE NEIGHBOUR: 'it returns false'. Refute it at one input. -/
def dvvLatticeWrong : ChangeSpec := { name := "dvvLattice", fn := fun _ => fun
  | [d1, d2, d3] => { results := [.lit (.bool false)], args := [d1, d2, d3] }
  | _ => none }
def DvvLatticeWrongFalsely : Prop := dvvLatticeRow.holds Try.pinned (OpenSpec.ofChange dvvLatticeWrong)

/-- 'concordlaw11.DvvUpward': WHATEVER THE INPUT: true; the input reads as it did. -/
def dvvUpwardSpec : ChangeSpec := { name := "dvvUpward", fn := fun _ => fun
  | [d1, d2] => { results := [.lit (.bool true)], args := [d1, d2] }
  | _ => none }
def dvvUpwardRow : OpenClaim := { program := "ytlmnmlehnigfdaa", sum := "9c7396c5bf223a861195e180b006ba610bdc0900bd69c3396902bb1dcb24ccd5", func := "concord/concordlaw11.DvvUpward", spec := "dvvUpward", unfollowed := true, recurses := true, apart := false }
def DvvUpwardSaid : Prop := dvvUpwardRow.holds Try.pinned (OpenSpec.ofChange dvvUpwardSpec)

/-- ITS FALSE NEIGHBOUR: 'it returns false'. Refute it at one input. -/
def dvvUpwardWrong : ChangeSpec := { name := "dvvUpward", fn := fun _ => fun
  | [d1, d2] => { results := [.lit (.bool false)], args := [d1, d2] }
  | _ => none }
def DvvUpwardWrongFalsely : Prop := dvvUpwardRow.holds Try.pinned (OpenSpec.ofChange dvvUpwardWrong)

/-- 'concordlaw11.DvvRuns': WHATEVER THE INPUT: true; the input reads as it did. -/
def dvvRunsSpec : ChangeSpec := { name := "dvvRuns", fn := fun _ => fun
  | [d1, d2] => { results := [.lit (.bool true)], args := [d1, d2] }
  | _ => none }
def dvvRunsRow : OpenClaim := { program := "ytlmnmlehnigfdaa", sum := "9c7396c5bf223a861195e180b006ba610bdc0900bd69c3396902bb1dcb24ccd5", func := "concord/concordlaw11.DvvRuns", spec := "dvvRuns", unfollowed := true, recurses := true, apart := false }
def DvvRunsSaid : Prop := dvvRunsRow.holds Try.pinned (OpenSpec.ofChange dvvRunsSpec)

/-- ITS FALSE NEIGHBOUR: 'it returns false'. Refute it at one input. -/
def dvvRunsWrong : ChangeSpec := { name := "dvvRuns", fn := fun _ => fun
  | [d1, d2] => { results := [.lit (.bool false)], args := [d1, d2] }
  | _ => none }
def DvvRunsWrongFalsely : Prop := dvvRunsRow.holds Try.pinned (OpenSpec.ofChange dvvRunsWrong)

/-- 'concordlaw11.DvvBack': WHATEVER THE INPUT: true; the input reads as it did. -/
def dvvBackSpec : ChangeSpec := { name := "dvvBack", fn := fun _ => fun
  | [d1, d2] => { results := [.lit (.bool true)], args := [d1, d2] }
  | _ => none }
def dvvBackRow : OpenClaim := { program := "ytlmnmlehnigfdaa", sum := "9c7396c5bf223a861195e180b006ba610bdc0900bd69c3396902bb1dcb24ccd5", func := "concord/concordlaw11.DvvBack", spec := "dvvBack", unfollowed := true, recurses := true, apart := false }
def DvvBackSaid : Prop := dvvBackRow.holds Try.pinned (OpenSpec.ofChange dvvBackSpec)

/-- ITS FALSE NEIGHBOUR: 'it returns false'. Refute it at one input. -/
def dvvBackWrong : ChangeSpec := { name := "dvvBack", fn := fun _ => fun
  | [d1, d2] => { results := [.lit (.bool false)], args := [d1, d2] }
  | _ => none }
def DvvBackWrongFalsely : Prop := dvvBackRow.holds Try.pinned (OpenSpec.ofChange dvvBackWrong)

/- THE SECOND FORM. 'bulk': how many values and letters a reading holds, each counted each time it is reached (what is shared counts as often as it is met; a slice's spare places count too). A statement '..UptoSaid' is the law's where the arguments, and the package variables that the reading takes, are together of bulk at most 1048576: NARROWER than '..Said'. Prove '..Said' where nothing that the law and all that it calls make is longer than what came in: it says more and counts as full. Else prove '..UptoSaid'. A law counts once. -/
mutual
def uptoBulk {H : Type} : DataW H → Nat
  | .lit (.string bytes) => bytes.length + 1
  | .lit _ => 1
  | .nil => 1
  | .ptr d => uptoBulk d + 1
  | .slice elems spare => uptoBulkAll elems + uptoBulkAll spare + 1
  | .agg parts => uptoBulkAll parts + 1
  | .iface _ d => uptoBulk d + 1
  | .map entries => uptoBulkEntries entries + 1
  | .held _ => 1
def uptoBulkAll {H : Type} : List (DataW H) → Nat
  | [] => 0
  | d :: r => uptoBulk d + uptoBulkAll r
def uptoBulkEntries {H : Type} : List (Lit × DataW H) → Nat
  | [] => 0
  | x :: r => uptoBulkEntry x + uptoBulkEntries r
def uptoBulkEntry {H : Type} : Lit × DataW H → Nat
  | (.string bytes, d) => bytes.length + uptoBulk d + 1
  | (_, d) => uptoBulk d + 1
 end
def uptoSmall : (H : Type) → List (DataW H) → Bool := fun _ ds => decide (uptoBulkAll ds ≤ 1048576)
def OpenSpec.upto (s : _root_.Go.ChangeSpec) : _root_.Go.OpenSpec := { _root_.Go.OpenSpec.ofChange s with cond := some uptoSmall }

/-- 'concordlaw11.DvvPuts', WHERE WHAT IT READS IS OF BULK AT MOST 1048576: true; the input reads as it did. -/
def dvvPutsUptoRow : OpenClaim := { program := "ytlmnmlehnigfdaa", sum := "9c7396c5bf223a861195e180b006ba610bdc0900bd69c3396902bb1dcb24ccd5", func := "concord/concordlaw11.DvvPuts", spec := "dvvPuts", unfollowed := true, recurses := true, apart := false, narrowed := true }
def DvvPutsUptoSaid : Prop := dvvPutsUptoRow.holds Try.pinned (OpenSpec.upto dvvPutsSpec)

/-- 'concordlaw11.DvvJoins', WHERE WHAT IT READS IS OF BULK AT MOST 1048576: true; the input reads as it did. -/
def dvvJoinsUptoRow : OpenClaim := { program := "ytlmnmlehnigfdaa", sum := "9c7396c5bf223a861195e180b006ba610bdc0900bd69c3396902bb1dcb24ccd5", func := "concord/concordlaw11.DvvJoins", spec := "dvvJoins", unfollowed := true, recurses := true, apart := false, narrowed := true }
def DvvJoinsUptoSaid : Prop := dvvJoinsUptoRow.holds Try.pinned (OpenSpec.upto dvvJoinsSpec)

/-- 'concordlaw11.DvvBytes', WHERE WHAT IT READS IS OF BULK AT MOST 1048576: true; the input reads as it did. -/
def dvvBytesUptoRow : OpenClaim := { program := "ytlmnmlehnigfdaa", sum := "9c7396c5bf223a861195e180b006ba610bdc0900bd69c3396902bb1dcb24ccd5", func := "concord/concordlaw11.DvvBytes", spec := "dvvBytes", unfollowed := true, recurses := true, apart := false, narrowed := true }
def DvvBytesUptoSaid : Prop := dvvBytesUptoRow.holds Try.pinned (OpenSpec.upto dvvBytesSpec)

/-- 'concordlaw11.DvvNames', WHERE WHAT IT READS IS OF BULK AT MOST 1048576: true; the input reads as it did. -/
def dvvNamesUptoRow : OpenClaim := { program := "ytlmnmlehnigfdaa", sum := "9c7396c5bf223a861195e180b006ba610bdc0900bd69c3396902bb1dcb24ccd5", func := "concord/concordlaw11.DvvNames", spec := "dvvNames", unfollowed := true, recurses := true, apart := false, narrowed := true }
def DvvNamesUptoSaid : Prop := dvvNamesUptoRow.holds Try.pinned (OpenSpec.upto dvvNamesSpec)

/-- 'concordlaw11.DvvAsks', WHERE WHAT IT READS IS OF BULK AT MOST 1048576: true; the input reads as it did. -/
def dvvAsksUptoRow : OpenClaim := { program := "ytlmnmlehnigfdaa", sum := "9c7396c5bf223a861195e180b006ba610bdc0900bd69c3396902bb1dcb24ccd5", func := "concord/concordlaw11.DvvAsks", spec := "dvvAsks", unfollowed := true, recurses := true, apart := false, narrowed := true }
def DvvAsksUptoSaid : Prop := dvvAsksUptoRow.holds Try.pinned (OpenSpec.upto dvvAsksSpec)

/-- 'concordlaw11.DvvLattice', WHERE WHAT IT READS IS OF BULK AT MOST 1048576: true; the input reads as it did. -/
def dvvLatticeUptoRow : OpenClaim := { program := "ytlmnmlehnigfdaa", sum := "9c7396c5bf223a861195e180b006ba610bdc0900bd69c3396902bb1dcb24ccd5", func := "concord/concordlaw11.DvvLattice", spec := "dvvLattice", unfollowed := true, recurses := true, apart := false, narrowed := true }
def DvvLatticeUptoSaid : Prop := dvvLatticeUptoRow.holds Try.pinned (OpenSpec.upto dvvLatticeSpec)

/-- 'concordlaw11.DvvUpward', WHERE WHAT IT READS IS OF BULK AT MOST 1048576: true; the input reads as it did. -/
def dvvUpwardUptoRow : OpenClaim := { program := "ytlmnmlehnigfdaa", sum := "9c7396c5bf223a861195e180b006ba610bdc0900bd69c3396902bb1dcb24ccd5", func := "concord/concordlaw11.DvvUpward", spec := "dvvUpward", unfollowed := true, recurses := true, apart := false, narrowed := true }
def DvvUpwardUptoSaid : Prop := dvvUpwardUptoRow.holds Try.pinned (OpenSpec.upto dvvUpwardSpec)

/-- 'concordlaw11.DvvRuns', WHERE WHAT IT READS IS OF BULK AT MOST 1048576: true; the input reads as it did. -/
def dvvRunsUptoRow : OpenClaim := { program := "ytlmnmlehnigfdaa", sum := "9c7396c5bf223a861195e180b006ba610bdc0900bd69c3396902bb1dcb24ccd5", func := "concord/concordlaw11.DvvRuns", spec := "dvvRuns", unfollowed := true, recurses := true, apart := false, narrowed := true }
def DvvRunsUptoSaid : Prop := dvvRunsUptoRow.holds Try.pinned (OpenSpec.upto dvvRunsSpec)

/-- 'concordlaw11.DvvBack', WHERE WHAT IT READS IS OF BULK AT MOST 1048576: true; the input reads as it did. -/
def dvvBackUptoRow : OpenClaim := { program := "ytlmnmlehnigfdaa", sum := "9c7396c5bf223a861195e180b006ba610bdc0900bd69c3396902bb1dcb24ccd5", func := "concord/concordlaw11.DvvBack", spec := "dvvBack", unfollowed := true, recurses := true, apart := false, narrowed := true }
def DvvBackUptoSaid : Prop := dvvBackUptoRow.holds Try.pinned (OpenSpec.upto dvvBackSpec)

end Rows
end Go.Proofs.Ytlmnmlehnigfdaa
