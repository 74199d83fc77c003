/- DERIVED. An object that came in, opened. ObjectMerges: whatever Merge tells may be; where both sides are there, the order of merging does not matter; an object is not changed by itself. No condition. -/
import Derived.Test.YtljfigikkajlnaaVm14
import Derived.Test.YtljfigikkajlnaaVObMrgW
import Derived.Test.YtljfigikkajlnaaVm8
import Derived.Test.YtljfigikkajlnaaRows
import Derived.WalkKit
import Derived.ProofKit
import Derived.OpenShut
import Derived.ShutString
import Derived.ChangeOld
import Derived.Below
import Derived.SizedLaws
import Derived.Lib.SmallJoins
namespace Go.Proofs.Ytljfigikkajlnaa
open Go.RowKit Go.ChangeShapes Go.WideShapes Go.Deep
set_option linter.unusedVariables false
set_option linter.unusedSimpArgs false
section
variable {H : Type} {enc : TypeId × Value → H} {w : World} {base : Nat} {spare : Nat → Bool} {held : Bool}
def DotR (x : Dot) : Prop := 0 ≤ x.n ∧ x.n ≤ 18446744073709551615 ∧ 0 ≤ x.a ∧ x.a ≤ 4294967295
set_option maxRecDepth 100000 in
/-- A state's two cells. -/
theorem state_cells {n : Nat} {cs' : List Value} {z : DataW H × List MemPlace} (h : DataW.trod enc Try.prog w base spare held n 25 cs' = some z) (hz : ∀ n ∈ z.1.weights Try.prog 25, n ≤ reachBytes) :
 ∃ (A B : Option Addr) (c d : Nat) (a : List Dot) (l : List Sib), cs' = [.slice A a.length c, .slice B l.length d] ∧ a.length ≤ c ∧ l.length ≤ d ∧ GR.Rd dotK w A a ∧ GR.Rd sibK w B l ∧ a.length * 16 ≤ 140737488351232 ∧ l.length * 40 ≤ 140737488351232 ∧
  (∀ x ∈ a, DotR x) ∧ (∀ x ∈ l, DotR x.d) := by
 obtain ⟨y0, y1, n', rfl, hl, hy0, hy1⟩ := trod_struct2 Try.underlying25 h
 rw [show Try.prog.cellsOf 25 = 2 by kernel_rfl] at hl
 match cs', hl with
 | [c0, c1], _ =>
  change DataW.trod enc Try.prog w base spare held n' 22 (List.take (Try.prog.cellsOf 22) (List.drop 0 [c0, c1])) = _ at hy0
  change DataW.trod enc Try.prog w base spare held n' 23 (List.take (Try.prog.cellsOf 23) (List.drop 1 [c0, c1])) = _ at hy1
  rw [show Try.prog.cellsOf 22 = 1 by kernel_rfl] at hy0
  rw [show Try.prog.cellsOf 23 = 1 by kernel_rfl] at hy1
  simp only [List.drop_zero, List.drop_succ_cons, List.take_succ_cons, List.take_zero] at hy0 hy1
  have hw : ∀ n, n ∈ y0.1.weights Try.prog 22 ∨ n ∈ y1.1.weights Try.prog 23 → n ≤ reachBytes := fun n hn => hz n (by
   simp only [DataW.weights, Try.underlying25, DataW.weightsEach, List.map_cons, List.map_nil, List.mem_append]
   rcases hn with hn | hn
   · exact .inl hn
   · exact .inr (.inl hn))
  obtain ⟨A, c, a, rfl, h1, h2, h3, h4, _⟩ := open_row (K := dotK) Try.underlying22 (by kernel_rfl) (by kernel_rfl) hy0 (fun n hn => hw n (.inl hn)) dot_elem
  obtain ⟨B, d, l, rfl, k1, k2, k3, k4, _⟩ := open_row (K := sibK) Try.underlying23 (by kernel_rfl) (by kernel_rfl) hy1 (fun n hn => hw n (.inr hn)) sib_elem
  exact ⟨A, B, c, d, a, l, rfl, h1, k1, h2, k2, h3, k3, h4, k4⟩
set_option maxRecDepth 100000 in
/-- An object's three cells. -/
theorem object_cells {n : Nat} {cs' : List Value} {z : DataW H × List MemPlace} (h : DataW.trod enc Try.prog w base spare held n 27 cs' = some z) (hz : ∀ n ∈ z.1.weights Try.prog 27, n ≤ reachBytes) :
 ∃ (k : ByteArray) (A B : Option Addr) (c d : Nat) (a : List Dot) (l : List Sib), cs' = [.string k, .slice A a.length c, .slice B l.length d] ∧ k.size ≤ 140737488351232 ∧ a.length ≤ c ∧ l.length ≤ d ∧ GR.Rd dotK w A a ∧ GR.Rd sibK w B l ∧ a.length * 16 ≤ 140737488351232 ∧ l.length * 40 ≤ 140737488351232 ∧
  (∀ x ∈ a, DotR x) ∧ (∀ x ∈ l, DotR x.d) := by
 have hre : reachBytes = 140737488351232 := by decide
 obtain ⟨y0, y1, n', rfl, hl, hy0, hy1⟩ := trod_struct2 Try.underlying27 h
 rw [show Try.prog.cellsOf 27 = 3 by kernel_rfl] at hl
 match cs', hl with
 | [c0, c1, c2], _ =>
  change DataW.trod enc Try.prog w base spare held n' 9 (List.take (Try.prog.cellsOf 9) (List.drop 0 [c0, c1, c2])) = _ at hy0
  change DataW.trod enc Try.prog w base spare held n' 25 (List.take (Try.prog.cellsOf 25) (List.drop 1 [c0, c1, c2])) = _ at hy1
  rw [show Try.prog.cellsOf 9 = 1 by kernel_rfl] at hy0
  rw [show Try.prog.cellsOf 25 = 2 by kernel_rfl] at hy1
  simp only [List.drop_zero, List.drop_succ_cons, List.take_succ_cons, List.take_zero] at hy0 hy1
  have hw : ∀ n, n ∈ y0.1.weights Try.prog 9 ∨ n ∈ y1.1.weights Try.prog 25 → n ≤ reachBytes := fun n hn => hz n (by
   simp only [DataW.weights, Try.underlying27, DataW.weightsEach, List.map_cons, List.map_nil, List.mem_append]
   rcases hn with hn | hn
   · exact .inl hn
   · exact .inr (.inl hn))
  obtain ⟨s0, e0, x0, _⟩ := DataW.trod_string Try.underlying9 hy0
  simp only [List.cons.injEq, and_true] at e0
  subst e0
  have z0 := hw s0.data.toList.length (.inl (by rw [x0]; simp [DataW.weights]))
  rw [hre] at z0
  obtain ⟨A, B, c, d, a, l, e1, h1, h2, h3, h4, h5, h6, h7, h8⟩ := state_cells hy1 (fun n hn => hw n (.inr hn))
  simp only [List.cons.injEq, and_true] at e1
  obtain ⟨rfl, rfl⟩ := e1
  exact ⟨s0, A, B, c, d, a, l, rfl, z0, h1, h2, h3, h4, h5, h6, h7, h8⟩
set_option maxRecDepth 100000 in
theorem open_object {r : Reach} {b0 : Nat} {v : Value} {d : DataW H} {ps : List MemPlace} (hv : Value.okWide Try.prog w r b0 27 v) (h : DataW.Trod enc Try.prog w base spare held 27 v d ps) (hz : ∀ n ∈ d.weights Try.prog 27, n ≤ reachBytes) :
 ∃ (k : ByteArray) (A B : Option Addr) (c d : Nat) (a : List Dot) (l : List Sib), v = .agg #[.string k, .slice A a.length c, .slice B l.length d] ∧ k.size ≤ 140737488351232 ∧ a.length ≤ c ∧ l.length ≤ d ∧ GR.Rd dotK w A a ∧ GR.Rd sibK w B l ∧ a.length * 16 ≤ 140737488351232 ∧ l.length * 40 ≤ 140737488351232 ∧
  (∀ x ∈ a, DotR x) ∧ (∀ x ∈ l, DotR x.d) := by
 obtain ⟨cs, rfl, hsz⟩ := okWide_struct Try.underlying27 hv
 obtain ⟨fuel, hf⟩ := h
 obtain ⟨k, A, B, c, d', a, l, e, hh⟩ := object_cells hf hz
 refine ⟨k, A, B, c, d', a, l, ?_, hh⟩
 have : cs.toList = [.string k, .slice A a.length c, .slice B l.length d'] := e
 rw [← Array.toArray_toList (xs := cs), this]
theorem str_of {a : List Dot} {l : List Sib} (h : ∀ x ∈ a, DotR x) (k : ∀ x ∈ l, DotR x.d) : StR a l := ⟨fun d hd => ⟨(h d hd).1, (h d hd).2.2.1, (h d hd).2.2.2⟩, fun d hd => ⟨(k d hd).1, (k d hd).2.2.1, (k d hd).2.2.2⟩⟩
end
end Go.Proofs.Ytljfigikkajlnaa
namespace Go.Proofs.Ytljfigikkajlnaa.objectMerges
open Go.ChangeShapes Go.WideShapes Go.ChangeAt Go.RowKit Go.Joins
open Go.ChangeMaps (open_string shut_string)
set_option linter.unusedVariables false
set_option linter.unusedSimpArgs false
set_option linter.unusedVariables false
theorem own : ownKnob Try.prog.godebug = none := by kernel_rfl
theorem laidOut : laidOutB Try.prog = true := by kernel_rfl
set_option maxRecDepth 100000 in
theorem lifted (os : Os) (started : os.Started) (H : Type) (enc : TypeId × Value → H) :
 ReturnsInHanded {} Try.checked os 9 .any (Rows.objectMergesSpec.pre6 enc Try.prog Try.f9 Rows.objectMergesRow.domain false) (Rows.objectMergesSpec.post enc Try.prog Try.f9 false true false false) := by
 refine returnsInHanded_of_change_sized (C := Try.checked) own started (by kernel_rfl) Try.func9
  (ChangeSpec.witness6 (enc := enc) (C := Try.checked) false ⟨#[], #[.agg #[.string ByteArray.empty, .slice none 0 0, .slice none 0 0], .agg #[.string ByteArray.empty, .slice none 0 0, .slice none 0 0], .agg #[.string ByteArray.empty, .slice none 0 0, .slice none 0 0]], []⟩ 8 (by kernel_rfl) (by kernel_rfl) (by kernel_rfl) (by kernel_rfl)) ?_
 intro W base args ds gs before hval0 hW hcnd hsz0 _
 have hsz : (DataW.weightsEach Try.prog (Try.f9.params.toList ++ Rows.objectMergesSpec.plain.varTypes Try.prog) (ds ++ gs)).all (· ≤ reachBytes) = true := hsz0
 have hval : ∀ (j : Nat) t v, Try.f9.params[j]? = some t → args[j]? = some v → Value.okWide Try.prog W .any base t v := hval0
 have hW' := hW
 obtain ⟨p, q, hA0, hV, rfl, hfz, hnd⟩ := hW
 have hA : DataW.TrodAll enc Try.prog W 0 (fun _ => true) true Try.f9.params.toList args.toList ds p := hA0
 rw [Try.params9] at hA hval hsz
 obtain ⟨v0, vs0, d0, ds0, p0, q0, hargs, rfl, rfl, h0, r0⟩ := trodAll_cons hA
 obtain ⟨v1, vs1, d1, ds1, p1, q1, rfl, rfl, rfl, h1, r1⟩ := trodAll_cons r0
 obtain ⟨v2, vs2, d2, ds2, p2, q2, rfl, rfl, rfl, h2, r2⟩ := trodAll_cons r1
 obtain ⟨rfl, rfl, rfl⟩ := trodAll_nil r2
 obtain rfl : args = #[v0, v1, v2] := by cases args; simp_all
 obtain ⟨rfl, rfl⟩ := trodVars_none hV
 have k0 := h0
 have lt0 : ∀ x ∈ p0, x.block < W.heap.size := by obtain ⟨m, hm⟩ := k0; exact DataW.trod_lt m _ _ _ hm
 obtain ⟨ky0, A0, B0, c0, e0, a0, l0, rfl, zk0, ca0, cl0, ha0, hl0, sa0, sl0, na0, nl0⟩ := open_object (hval 0 27 v0 rfl rfl) h0 (weights_of hsz (j := 0) rfl rfl)
 have k1 := h1
 have lt1 : ∀ x ∈ p1, x.block < W.heap.size := by obtain ⟨m, hm⟩ := k1; exact DataW.trod_lt m _ _ _ hm
 obtain ⟨ky1, A1, B1, c1, e1, a1, l1, rfl, zk1, ca1, cl1, ha1, hl1, sa1, sl1, na1, nl1⟩ := open_object (hval 1 27 v1 rfl rfl) h1 (weights_of hsz (j := 1) rfl rfl)
 have k2 := h2
 have lt2 : ∀ x ∈ p2, x.block < W.heap.size := by obtain ⟨m, hm⟩ := k2; exact DataW.trod_lt m _ _ _ hm
 obtain ⟨ky2, A2, B2, c2, e2, a2, l2, rfl, zk2, ca2, cl2, ha2, hl2, sa2, sl2, na2, nl2⟩ := open_object (hval 2 27 v2 rfl rfl) h2 (weights_of hsz (j := 2) rfl rfl)
 clear hA0 hval0 hsz0 hsz
 refine (merges_walk ky0 ky1 ky2 A0 B0 A1 B1 A2 B2 c0 e0 c1 e1 c2 e2 a0 a1 a2 l0 l1 l2 W ha0 hl0 ha1 hl1 ha2 hl2 sa0 sl0 sa1 sl1 sa2 sl2 (str_of na0 nl0) (str_of na1 nl1) (str_of na2 nl2)).mono fun e W' ⟨he, bel⟩ => ?_
 subst he
 exact ⟨_, rfl, _, _, _, [], _, [], hW', trodAll_mk1 (shut_bool Try.underlying4 _), (trodAll_cons_mk (Below.trod laidOut (by kernel_rfl) (of_decide_eq_true (by kernel_rfl)) k0 bel lt0) (trodAll_cons_mk (Below.trod laidOut (by kernel_rfl) (of_decide_eq_true (by kernel_rfl)) k1 bel lt1) (trodAll_cons_mk (Below.trod laidOut (by kernel_rfl) (of_decide_eq_true (by kernel_rfl)) k2 bel lt2) trodAll_mk0))), rfl, bel.frame _, fun h => by cases h⟩
theorem over : Rows.objectMergesRow.holds Try.pinned (OpenSpec.ofChange Rows.objectMergesSpec) :=
 OpenClaim.holds_of_wide 9 Try.f9 rfl rfl rfl rfl rfl rfl rfl ⟨rfl, rfl, rfl, rfl, rfl⟩ rfl rfl rfl rfl rfl (by kernel_rfl) Try.func9 (by kernel_rfl)
  (of_decide_eq_true (by kernel_rfl)) (by unfold Func.isWrapper; first | (rw [if_pos (by decide +kernel)]; kernel_rfl) | (rw [if_neg (by decide +kernel)]; exact ⟨rfl, rfl⟩))
  (fun os started H enc _ => lifted os started H enc)
theorem proved : Rows.ObjectMergesSaid := over
#print axioms proved
end Go.Proofs.Ytljfigikkajlnaa.objectMerges
namespace Go.Proofs.Ytljfigikkajlnaa
theorem objectMerges_holds : Rows.ObjectMergesSaid := objectMerges.proved
end Go.Proofs.Ytljfigikkajlnaa
