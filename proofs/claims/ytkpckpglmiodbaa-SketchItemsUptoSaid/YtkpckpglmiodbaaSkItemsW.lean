/- DERIVED. SketchItems: the walk of the law. -/
import Derived.Test.YtkpckpglmiodbaaSkItemR
namespace Go.Proofs.Ytkpckpglmiodbaa
open Go.RowKit
attribute [local irreducible] arrW arrB wpList Code.wp

set_option maxRecDepth 100000 in
set_option maxHeartbeats 6400000 in
theorem items_walk (e : Ent) (x : Nat) (w : World) (hk : e.key.size ≤ 1048576) (hs : e.sum.size ≤ 1048576) (hx : x < 18446744073709551616) :
    Calls Try.prog 4 #[.agg #[.string e.key, .string e.sum], .int .u64 x] w fun r w' => r = .returned (.bool true) ∧ Below w.heap.size w w' := by
  obtain ⟨V, hV⟩ : ∃ V, V = itN e.key e.sum 6 := ⟨_, rfl⟩
  have hvl : V < 18446744073709551616 := by
    have h1 := itN_lt e.key e.sum 6
    have h2 : (4096 : Nat) * 256 ^ 6 ≤ 18446744073709551616 := by decide
    omega
  have h1 := skItem_any e.key e.sum hk hs (w.alloc (.cells #[.string e.key, .string e.sum] 29))
  have h2 := fun W => refItem_any e.key e.sum hk hs W
  rw [← hV] at h1 h2
  clear hV
  have HX := Lib.hid ((GR.Blk.new w 29 #[.string e.key, .string e.sum]))
  have H1 := Lib.hid h1
  have H2 := Lib.hid h2
  clear h1 h2 hk hs
  go_enter Try.func4, Try.ntmps4
  go_wp2_with fail
  refine H1.out.mono ?_
  rintro r w1 ⟨rfl, hb1⟩
  have X1 := HX.out.below hb1 (by simp)
  have x0 : w1.cell? ⟨w.heap.size, 0, none⟩ = some (.string e.key) := X1.cell 0
  have x1 : w1.cell? ⟨w.heap.size, 1, none⟩ = some (.string e.sum) := X1.cell 1
  have B1 := Lib.hid (bl_then ((Below.refl w.heap.size w).alloc (Nat.le_refl _) _) hb1)
  clear hb1 X1
  go_wp2_with fail
  refine (H2.out _).mono ?_
  rintro r w2 ⟨rfl, hb2⟩
  have B2 := Lib.hid (bl_then B1.out hb2)
  clear hb2
  go_wp2_with fail
  refine (segment_any V hvl _).mono ?_
  rintro r w3 ⟨rfl, rfl⟩
  go_wp2_with fail
  refine (segment_any x hx _).mono ?_
  rintro r w3 ⟨rfl, rfl⟩
  go_wp2
  go_ret
  exact ⟨rfl, B2.out⟩
end Go.Proofs.Ytkpckpglmiodbaa
