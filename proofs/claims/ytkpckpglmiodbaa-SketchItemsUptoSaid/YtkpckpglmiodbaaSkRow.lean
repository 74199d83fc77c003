/- DERIVED. An entry that came in, of small bulk: its texts' sizes. -/
import Derived.Test.YtkpckpglmiodbaaRows
import Derived.Test.YtkpckpglmiodbaaSegBase
import Derived.Deep.Slices
import Derived.Deep.Fields
import Derived.ChangeSame
import Derived.SizedLaws
import Derived.WideShapes
import Derived.ProofKit
import Derived.Lib.SmallJoins
namespace Go.Proofs.Ytkpckpglmiodbaa
open Go.RowKit Go.ChangeShapes Go.WideShapes Go.Deep

set_option maxRecDepth 100000 in
theorem open_entryB {H : Type} {enc : TypeId × Value → H} {w : World} {base : Nat} {spare : Nat → Bool} {held : Bool} {r : Reach} {b0 : Nat} {v : Value} {d : DataW H} {ps : List MemPlace}
    (hv : Value.okWide Try.prog w r b0 29 v) (h : DataW.Trod enc Try.prog w base spare held 29 v d ps) (hu : Rows.uptoBulk d ≤ 1048576) : ∃ e : Ent, v = .agg #[.string e.key, .string e.sum] ∧ e.key.size ≤ 1048576 ∧ e.sum.size ≤ 1048576 := by
  obtain ⟨c0, c1, y0, y1, m, rfl, rfl, _, hy0, hy1⟩ := Go.Joins.open_agg2 Try.underlying29 (by kernel_rfl) (by kernel_rfl) hv h
  obtain ⟨s0, e0, x0, _⟩ := DataW.trod_string Try.underlying9 hy0
  obtain ⟨s1, e1, x1, _⟩ := DataW.trod_string Try.underlying9 hy1
  simp only [List.cons.injEq, and_true] at e0 e1
  subst e0 e1
  subst x0 x1
  simp only [Rows.uptoBulk, Rows.uptoBulkAll] at hu
  have z0 : s0.data.toList.length = s0.size := rfl
  have z1 : s1.data.toList.length = s1.size := rfl
  exact ⟨⟨s0, s1⟩, rfl, by show s0.size ≤ _; omega, by show s1.size ≤ _; omega⟩
end Go.Proofs.Ytkpckpglmiodbaa
