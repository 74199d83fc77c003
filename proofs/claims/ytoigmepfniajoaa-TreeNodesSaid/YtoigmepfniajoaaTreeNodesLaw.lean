/- DERIVED. TreeNodes: for every level, index and node number both texts answer alike (Node, Level, Index, Parent, Kid), and node 2005 of level 3 is 2278. No condition. -/
import Derived.Test.YtoigmepfniajoaaRows
import Derived.Test.YtoigmepfniajoaaTreeKid
import Derived.WalkKit
import Derived.ProofKit
import Derived.OpenShut
import Derived.Below
namespace Go.Proofs.Ytoigmepfniajoaa.treeNodes
open Go.ChangeShapes Go.WideShapes Go.ChangeAt Go.RowKit
set_option linter.unusedVariables false

theorem own : ownKnob Try.prog.godebug = none := by kernel_rfl

set_option maxRecDepth 100000 in
set_option maxHeartbeats 3200000 in
theorem walk (l i n : Int) (w2 : (Lit.int .u16 n).wf = true) (w : World) :
    Calls Try.prog 3 #[.int .i64 l, .int .i64 i, .int .u16 n] w fun e w' => e = .returned (.bool true) ∧ Below w.heap.size w w' := by
  have hb := bounds_u16 w2
  have h0 := hb.1
  have h := hb.2
  clear hb w2
  have n3 : nodeV 3 2005 = 2278 := by decide
  have e3 : nodeE 3 2005 = 0 := by decide
  have HB := Lib.hid (Below.refl w.heap.size w)
  go_enter Try.func3, Try.ntmps3
  go_wp2_with (first
    | (go_at_call 10; refine (node_any _ _ _).mono ?_; rintro e w1 ⟨rfl, hb1⟩; have HN := Lib.hid (bl_then HB.out hb1); clear hb1 HB; have HB := HN; clear HN)
    | (go_at_call 11; refine (refNode_any _ _ _).mono ?_; rintro e w1 ⟨rfl, rfl⟩)
    | (go_at_call 12; refine (parent_any _ h0 h _).mono ?_; rintro e w1 ⟨rfl, hb1⟩; have HN := Lib.hid (bl_then HB.out hb1); clear hb1 HB; have HB := HN; clear HN)
    | (go_at_call 13; refine (refParent_any _ h0 h _).mono ?_; rintro e w1 ⟨rfl, rfl⟩)
    | (go_at_call 14; refine (kid_any _ _ h0 h _).mono ?_; rintro e w1 ⟨rfl, hb1⟩; have HN := Lib.hid (bl_then HB.out hb1); clear hb1 HB; have HB := HN; clear HN)
    | (go_at_call 15; refine (refKid_any _ _ h0 h _).mono ?_; rintro e w1 ⟨rfl, rfl⟩)
    | (go_at_call 16; refine (level_any _ h0 h _).mono ?_; rintro e w1 ⟨rfl, hb1⟩; have HN := Lib.hid (bl_then HB.out hb1); clear hb1 HB; have HB := HN; clear HN)
    | (go_at_call 17; refine (refLevel_any _ h0 h _).mono ?_; rintro e w1 ⟨rfl, rfl⟩)
    | (go_at_call 18; refine (index_any _ h0 h _).mono ?_; rintro e w1 ⟨rfl, hb1⟩; have HN := Lib.hid (bl_then HB.out hb1); clear hb1 HB; have HB := HN; clear HN)
    | (go_at_call 19; refine (refIndex_any _ h0 h _).mono ?_; rintro e w1 ⟨rfl, rfl⟩))
  go_ret
  exact ⟨rfl, HB.out⟩

set_option maxRecDepth 100000 in
theorem lifted (os : Os) (started : os.Started) (H : Type) (enc : TypeId × Value → H) :
    ReturnsInHanded {} Try.checked os 3 .any (Rows.treeNodesSpec.pre6 enc Try.prog Try.f3 Rows.treeNodesRow.domain false) (Rows.treeNodesSpec.post enc Try.prog Try.f3 false true false false) := by
  refine returnsInHanded_of_change (C := Try.checked) own started (by kernel_rfl) Try.func3
    (ChangeSpec.witness6 (enc := enc) (C := Try.checked) false ⟨#[], #[.int .i64 0, .int .i64 0, .int .u16 0], []⟩ 8 (by kernel_rfl) (by kernel_rfl) (by kernel_rfl) (by kernel_rfl)) ?_
  intro W base args ds gs before hval0 hW hcnd _
  have hval : ∀ (j : Nat) t v, Try.f3.params[j]? = some t → args[j]? = some v → Value.okWide Try.prog W .any base t v := hval0
  have hW' := hW
  obtain ⟨p, q, hA0, hV, rfl, hfz, hnd⟩ := hW
  have hA : DataW.TrodAll enc Try.prog W 0 (fun _ => true) true Try.f3.params.toList args.toList ds p := hA0
  rw [Try.params3] at hA hval
  obtain ⟨v0, vs0, d0, ds0, p0, q0, hargs, rfl, rfl, h0, r0⟩ := trodAll_cons hA
  obtain ⟨v1, vs1, d1, ds1, p1, q1, rfl, rfl, rfl, h1, r1⟩ := trodAll_cons r0
  obtain ⟨v2, vs2, d2, ds2, p2, q2, rfl, rfl, rfl, h2, r2⟩ := trodAll_cons r1
  obtain ⟨rfl, rfl, rfl⟩ := trodAll_nil r2
  obtain rfl : args = #[v0, v1, v2] := by cases args; simp_all
  obtain ⟨rfl, rfl⟩ := trodVars_none hV
  obtain ⟨a0, rfl, rfl, rfl, w0⟩ := open_int Try.underlying3 (hval 0 3 v0 rfl rfl) h0
  obtain ⟨a1, rfl, rfl, rfl, w1⟩ := open_int Try.underlying3 (hval 1 3 v1 rfl rfl) h1
  obtain ⟨a2, rfl, rfl, rfl, w2⟩ := open_int Try.underlying22 (hval 2 22 v2 rfl rfl) h2
  clear hA0 hval0
  refine (walk a0 a1 a2 w2 W).mono fun e W' ⟨he, bel⟩ => ?_
  subst he
  exact ⟨_, rfl, _, _, _, [], _, [], hW', trodAll_mk1 (shut_bool Try.underlying4 _), (trodAll_cons_mk (shut_int Try.underlying3 w0) (trodAll_cons_mk (shut_int Try.underlying3 w1) (trodAll_cons_mk (shut_int Try.underlying22 w2) trodAll_mk0))), rfl, bel.frame _, fun h => by cases h⟩

theorem over : Rows.treeNodesRow.holds Try.pinned (OpenSpec.ofChange Rows.treeNodesSpec) :=
  OpenClaim.holds_of_wide 3 Try.f3 rfl rfl rfl rfl rfl rfl rfl ⟨rfl, rfl, rfl, rfl, rfl⟩ rfl rfl rfl rfl rfl (by kernel_rfl) Try.func3 (by kernel_rfl)
    (of_decide_eq_true (by kernel_rfl)) (by unfold Func.isWrapper; first | (rw [if_pos (by decide +kernel)]; kernel_rfl) | (rw [if_neg (by decide +kernel)]; exact ⟨rfl, rfl⟩))
    (fun os started H enc _ => lifted os started H enc)

theorem proved : Rows.TreeNodesSaid := over
#print axioms proved
end Go.Proofs.Ytoigmepfniajoaa.treeNodes
namespace Go.Proofs.Ytoigmepfniajoaa
theorem treeNodes_holds : Rows.TreeNodesSaid := treeNodes.proved
end Go.Proofs.Ytoigmepfniajoaa
