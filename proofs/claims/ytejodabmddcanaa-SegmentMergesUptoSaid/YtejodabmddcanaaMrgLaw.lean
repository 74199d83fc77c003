/- DERIVED. SegmentMerges: of an item list and a number list of bulk at most 1048576, in order or not, Merge tells what the document says, in that order; what is written into what was handed over changes nothing; without a function nothing is done. -/
import Derived.Test.YtejodabmddcanaaRows
import Derived.Test.YtejodabmddcanaaMrgWalk
import Derived.Test.YtejodabmddcanaaMrgRow
import Derived.WalkKit
import Derived.ProofKit
import Derived.OpenShut
import Derived.ShutString
import Derived.ChangeOld
import Derived.Below
import Derived.SizedLaws
import Derived.JoinedCond
import Derived.Deep.CondSized
import Derived.Lib.SmallJoins
namespace Go.Proofs.Ytejodabmddcanaa.segmentMerges
open Go.ChangeShapes Go.WideShapes Go.ChangeAt Go.RowKit Go.Joins
open Go.ChangeMaps (open_string shut_string)
set_option linter.unusedVariables false

theorem own : ownKnob Try.prog.godebug = none := by kernel_rfl
theorem laidOut : laidOutB Try.prog = true := by kernel_rfl

set_option maxRecDepth 100000 in
theorem lifted (os : Os) (started : os.Started) (H : Type) (enc : TypeId × Value → H) (F : Stop.Interp) :
    ReturnsInHanded {} Try.checked os 3 .any ((Rows.OpenSpec.upto Rows.segmentMergesSpec).pre6 enc Try.prog Try.f3 Rows.segmentMergesUptoRow.domain false) (((Rows.OpenSpec.upto Rows.segmentMergesSpec).at F).post enc Try.prog Try.f3 false true false false) := by
  refine returnsInHanded_of_cond_sized (C := Try.checked) (s := Rows.OpenSpec.upto Rows.segmentMergesSpec) (k := Rows.uptoSmall) rfl own started (by kernel_rfl) Try.func3
    (OpenSpec.witness (enc := enc) (C := Try.checked) (s := Rows.OpenSpec.upto Rows.segmentMergesSpec) (k := Rows.uptoSmall) rfl false ⟨#[], #[.slice none 0 0, .slice none 0 0], []⟩ 8 (by kernel_rfl) (by kernel_rfl) (by kernel_rfl) (x := ([.nil, .nil], [], [])) (by kernel_rfl) rfl (by kernel_rfl)) ?_
  intro W base args ds gs before hval0 hW hcnd hk hsz0 _
  show Calls _ _ args W fun e W' => ∃ v, e = .returned v ∧ Rows.segmentMergesSpec.post enc Try.prog Try.f3 false true false false W args v W'
  have hsz : (DataW.weightsEach Try.prog (Try.f3.params.toList ++ Rows.segmentMergesSpec.plain.varTypes Try.prog) (ds ++ gs)).all (· ≤ reachBytes) = true := hsz0
  have hval : ∀ (j : Nat) t v, Try.f3.params[j]? = some t → args[j]? = some v → Value.okWide Try.prog W .any base t v := hval0
  have hW' := hW
  obtain ⟨p, q, hA0, hV, rfl, hfz, hnd⟩ := hW
  have hA : DataW.TrodAll enc Try.prog W 0 (fun _ => true) true Try.f3.params.toList args.toList ds p := hA0
  rw [Try.params3] at hA hval hsz
  obtain ⟨v0, vs0, d0, ds0, p0, q0, hargs, rfl, rfl, h0, r0⟩ := trodAll_cons hA
  obtain ⟨v1, vs1, d1, ds1, p1, q1, rfl, rfl, rfl, h1, r1⟩ := trodAll_cons r0
  obtain ⟨rfl, rfl, rfl⟩ := trodAll_nil r1
  obtain rfl : args = #[v0, v1] := by cases args; simp_all
  obtain ⟨rfl, rfl⟩ := trodVars_none hV
  have k0 := h0
  have lt0 : ∀ x ∈ p0, x.block < W.heap.size := by obtain ⟨m, hm⟩ := k0; exact DataW.trod_lt m _ _ _ hm
  obtain ⟨A0, c0, l0, rfl, hr0, u0⟩ := open_items Try.underlying22 (hval 0 22 v0 rfl rfl) h0 (by have hbk : Rows.uptoBulkAll _ ≤ 1048576 := of_decide_eq_true hk; simp only [List.append_nil, Rows.uptoBulkAll] at hbk; omega)
  have k1 := h1
  have lt1 : ∀ x ∈ p1, x.block < W.heap.size := by obtain ⟨m, hm⟩ := k1; exact DataW.trod_lt m _ _ _ hm
  obtain ⟨A1, c1, l1, rfl, hr1, u1⟩ := open_nums Try.underlying23 (hval 1 23 v1 rfl rfl) h1 (by have hbk : Rows.uptoBulkAll _ ≤ 1048576 := of_decide_eq_true hk; simp only [List.append_nil, Rows.uptoBulkAll] at hbk; omega)
  clear hA0 hval0 hsz0 hsz hk
  refine (merges_walk A0 A1 c0 c1 l0 l1 W hr0 hr1 u1.2 u0 u1.1).mono fun e W' ⟨he, bel⟩ => ?_
  subst he
  exact ⟨_, rfl, _, _, _, [], _, [], hW', trodAll_mk1 (shut_bool Try.underlying4 _), (trodAll_cons_mk (Below.trod laidOut (by kernel_rfl) (of_decide_eq_true (by kernel_rfl)) k0 bel lt0) (trodAll_cons_mk (Below.trod laidOut (by kernel_rfl) (of_decide_eq_true (by kernel_rfl)) k1 bel lt1) trodAll_mk0)), rfl, bel.frame _, fun h => by cases h⟩

theorem over : Rows.segmentMergesUptoRow.holds Try.pinned (Rows.OpenSpec.upto Rows.segmentMergesSpec) :=
  OpenClaim.holds_of_cond 3 Try.f3 rfl rfl rfl rfl rfl rfl rfl ⟨rfl, rfl, rfl, rfl, rfl⟩ rfl rfl rfl rfl rfl (by kernel_rfl) Try.func3 (by kernel_rfl)
    (of_decide_eq_true (by kernel_rfl)) (by unfold Func.isWrapper; first | (rw [if_pos (by decide +kernel)]; kernel_rfl) | (rw [if_neg (by decide +kernel)]; exact ⟨rfl, rfl⟩))
    (fun os started H enc _ F => lifted os started H enc F)

theorem proved : Rows.SegmentMergesUptoSaid := over
#print axioms proved
end Go.Proofs.Ytejodabmddcanaa.segmentMerges
namespace Go.Proofs.Ytejodabmddcanaa
theorem segmentMergesUpto_holds : Rows.SegmentMergesUptoSaid := segmentMerges.proved
end Go.Proofs.Ytejodabmddcanaa
