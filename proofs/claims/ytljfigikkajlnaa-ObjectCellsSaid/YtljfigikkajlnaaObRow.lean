/- DERIVED. A cell that came in, opened. -/
import Derived.Test.YtljfigikkajlnaaDvRow
namespace Go.Proofs.Ytljfigikkajlnaa
open Go.RowKit Go.ChangeShapes Go.WideShapes Go.Deep
set_option linter.unusedVariables false
set_option linter.unusedSimpArgs false
section
variable {H : Type} {enc : TypeId × Value → H} {w : World} {base : Nat} {spare : Nat → Bool} {held : Bool}
set_option maxRecDepth 100000 in
theorem open_cell {r : Reach} {b0 : Nat} {v : Value} {d : DataW H} {ps : List MemPlace} (hv : Value.okWide Try.prog w r b0 48 v) (h : DataW.Trod enc Try.prog w base spare held 48 v d ps) (hz : ∀ n ∈ d.weights Try.prog 48, n ≤ reachBytes) :
    ∃ (k s : ByteArray), v = .agg #[.string k, .string s] ∧ k.size ≤ 140737488351232 ∧ s.size ≤ 140737488351232 := by
  have hre : reachBytes = 140737488351232 := by decide
  obtain ⟨v0, v1, y0, y1, n, rfl, rfl, _, hy0, hy1⟩ := Go.Joins.open_agg2 Try.underlying48 (by kernel_rfl) (by kernel_rfl) hv h
  have hw : ∀ n, n ∈ y0.1.weights Try.prog 9 ∨ n ∈ y1.1.weights Try.prog 9 → n ≤ reachBytes := fun n hn => hz n (by
    simp only [DataW.weights, Try.underlying48, DataW.weightsEach, List.map_cons, List.map_nil, List.mem_append]
    rcases hn with hn | hn
    · exact .inl hn
    · exact .inr (.inl hn))
  obtain ⟨s0, e0, x0, _⟩ := DataW.trod_string Try.underlying9 hy0
  obtain ⟨s1, e1, x1, _⟩ := DataW.trod_string Try.underlying9 hy1
  simp only [List.cons.injEq, and_true] at e0 e1
  subst e0 e1
  have z0 := hw s0.data.toList.length (.inl (by rw [x0]; simp [DataW.weights]))
  have z1 := hw s1.data.toList.length (.inr (by rw [x1]; simp [DataW.weights]))
  rw [hre] at z0 z1
  exact ⟨s0, s1, rfl, z0, z1⟩
end
end Go.Proofs.Ytljfigikkajlnaa
