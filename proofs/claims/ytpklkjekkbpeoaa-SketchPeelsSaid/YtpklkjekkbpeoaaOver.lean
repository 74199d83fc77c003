/- DERIVED. A region that draws its order, whose operations read and whose calls make memory of their own alone: one walk in the order of the text (the guide's 'wp_region_quiet' at the class of the worlds above one). -/
import Derived.Test.YtpklkjekkbpeoaaSegBase
namespace Go.Proofs.Ytpklkjekkbpeoaa
open Go.RowKit
set_option linter.unusedVariables false
set_option linter.unusedSimpArgs false

/-- A world in which all that stood in W stands as it was. -/
structure Over (W : World) where
  w : World
  h : Below W.heap.size W w
instance (W : World) : Nonempty (Over W) := ⟨⟨W, Below.refl _ _⟩⟩
theorem over_cell {W : World} {p : Addr} {v : Value} (h : W.cell? p = some v) : ∀ x : Over W, x.w.cell? p = some v := fun x => (x.h.cell (World.block_lt_of_cell? W p h)).trans h
theorem over_at {W : World} {p : Addr} {v : Value} (h : ∀ x : Over W, x.w.cell? p = some v) (w : World) (hb : Below W.heap.size W w) : w.cell? p = some v := h ⟨w, hb⟩
theorem over_next {W : World} {p : Addr} {v : Value} (h : ∀ x : Over W, x.w.cell? p = some v) (w : World) (hb : Below W.heap.size W w) : ∀ x : Over w, x.w.cell? p = some v := over_cell (over_at h w hb)
theorem over_region {P : Program} {W : World} {id : Nat} {Q : Exit → Act → World → Prop} {a : Act} {w : World} {l : List Oper} (hm : P.follows .mixedOrders = true) (hB : Region.lexB .any l.toArray = true) (hW : Below W.heap.size W w)
    (h : wpQuiet P l.toArray (fun w' => ∃ x : Over W, w' = x.w) (fun a' => ∀ w', (∃ x : Over W, w' = x.w) → Q .normal a' w') l a) : (Code.region id l.toArray true).wp P Q a w :=
  wp_region_quiet (C := fun w' => ∃ x : Over W, w' = x.w) hm hB ⟨⟨w.drew, ⟨hW.os, hW.tape, hW.output, hW.size, hW.block⟩⟩, rfl⟩ (by simpa using h)
theorem over_of {P : Program} {f : FuncId} {args : Array Value} {W : World} {x : Over W} {v : Value}
    (h : Calls P f args x.w fun e w' => e = .returned v ∧ Below x.w.heap.size x.w w') : Calls P f args x.w fun e w'' => e = .returned v ∧ ∃ y : Over W, w'' = y.w :=
  h.mono fun _ w' ⟨he, hb⟩ => ⟨he, ⟨w', bl_then x.h hb⟩, rfl⟩
theorem over_drawn {P : Program} {f : FuncId} {args : Array Value} {W : World} {x : Over W} {v : Value}
    (h : Calls P f args x.w fun e w' => e = .returned v ∧ Drawn x.w w') : Calls P f args x.w fun e w'' => e = .returned v ∧ ∃ y : Over W, w'' = y.w :=
  h.mono fun _ w' ⟨he, hb⟩ => ⟨he, ⟨w', bl_drawn x.h hb⟩, rfl⟩
theorem over_same {P : Program} {f : FuncId} {args : Array Value} {W : World} {x : Over W} {v : Value}
    (h : Calls P f args x.w fun e w' => e = .returned v ∧ x.w = w') : Calls P f args x.w fun e w'' => e = .returned v ∧ ∃ y : Over W, w'' = y.w :=
  h.mono fun _ _ ⟨he, hb⟩ => ⟨he, x, hb.symm⟩
end Go.Proofs.Ytpklkjekkbpeoaa
