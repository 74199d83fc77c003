/- DERIVED. What came in, opened: a slice of a sketch's cells. -/
import Derived.Test.YtpklkjekkbpeoaaSkRowI
namespace Go.Proofs.Ytpklkjekkbpeoaa
open Go.RowKit Go.ChangeShapes Go.WideShapes Go.Deep
set_option linter.unusedVariables false
set_option linter.unusedSimpArgs false
section
variable {H : Type} {enc : TypeId × Value → H} {w : World} {base : Nat} {spare : Nat → Bool} {held : Bool}
set_option maxRecDepth 100000 in
theorem cel_elem (n : Nat) (cs' : List Value) (z : DataW H × List MemPlace) (h : DataW.trod enc Try.prog w base spare held n 81 cs' = some z) : ∃ x : Cel, True ∧ cs' = celK.enc x := by
  obtain ⟨xs, n', _, _, hl, hxl, hf⟩ := DataW.trod_struct Try.underlying81 h
  rw [show Try.prog.cellsOf 81 = 3 by kernel_rfl] at hl
  match cs', hl with
  | [c0, c1, c2], _ =>
    have h0 := hf 0 _ rfl
    have h1 := hf 1 _ rfl
    have h2 := hf 2 _ rfl
    have hx : ∀ i, i < 3 → ∃ y, xs[i]? = some y := fun i hi => ⟨xs[i]'(by rw [hxl]; exact hi), List.getElem?_eq_getElem _⟩
    obtain ⟨y0, hy0⟩ := hx 0 (by omega)
    obtain ⟨y1, hy1⟩ := hx 1 (by omega)
    obtain ⟨y2, hy2⟩ := hx 2 (by omega)
    rw [hy0] at h0
    rw [hy1] at h1
    rw [hy2] at h2
    obtain ⟨s0, e0, _, w0⟩ := DataW.trod_int Try.underlying75 h0
    obtain ⟨s1, e1, _, w1⟩ := DataW.trod_int Try.underlying24 h1
    obtain ⟨s2, e2, _, w2⟩ := DataW.trod_int Try.underlying79 h2
    change List.take (Try.prog.cellsOf 75) (List.drop 0 [c0, c1, c2]) = _ at e0
    change List.take (Try.prog.cellsOf 24) (List.drop 1 [c0, c1, c2]) = _ at e1
    change List.take (Try.prog.cellsOf 79) (List.drop 2 [c0, c1, c2]) = _ at e2
    rw [show Try.prog.cellsOf 75 = 1 by kernel_rfl] at e0
    rw [show Try.prog.cellsOf 24 = 1 by kernel_rfl] at e1
    rw [show Try.prog.cellsOf 79 = 1 by kernel_rfl] at e2
    simp only [List.drop_zero, List.drop_succ_cons, List.take_succ_cons, List.take_zero, List.cons.injEq, and_true] at e0 e1 e2
    subst e0 e1 e2
    have b1 := Go.bounds_u64 w1
    have b2 := Go.bounds_u32 w2
    have b0' : -32768 ≤ s0 ∧ s0 ≤ 32767 := by
      have h := w0
      simp [Lit.wf, IntKind.min, IntKind.max, IntKind.signed, IntKind.bits] at h
      omega
    have b0 : (BitVec.ofInt 16 s0).toInt = s0 := by
      rw [BitVec.toInt_ofInt, Int.bmod_def]
      simp only [show (2 : Nat) ^ 16 = 65536 from rfl]
      omega
    refine ⟨⟨BitVec.ofInt 16 s0, BitVec.ofNat 64 s1.toNat, BitVec.ofNat 32 s2.toNat⟩, trivial, ?_⟩
    show [Value.int .i16 s0, Value.int .u64 s1, Value.int .u32 s2] = [Value.int .i16 (BitVec.ofInt 16 s0).toInt, Value.int .u64 (((BitVec.ofNat 64 s1.toNat).toNat : Nat) : Int), Value.int .u32 (((BitVec.ofNat 32 s2.toNat).toNat : Nat) : Int)]
    rw [b0, BitVec.toNat_ofNat, BitVec.toNat_ofNat, show ((s1.toNat % 2 ^ 64 : Nat) : Int) = s1 by omega, show ((s2.toNat % 2 ^ 32 : Nat) : Int) = s2 by omega]
set_option maxRecDepth 100000 in
theorem open_cels {r : Reach} {b0 : Nat} {v : Value} {d : DataW H} {ps : List MemPlace} (hv : Value.okWide Try.prog w r b0 37 v) (h : DataW.Trod enc Try.prog w base spare held 37 v d ps) (hz : ∀ n ∈ d.weights Try.prog 37, n ≤ reachBytes) :
    ∃ (A : Option Addr) (c : Nat) (l : List Cel), v = .slice A l.length c ∧ GR.Rd celK w A l := by
  obtain ⟨a, len, cap, rfl⟩ := okWide_slice Try.underlying37 hv
  obtain ⟨fuel, hf⟩ := h
  have hf' : DataW.trod enc Try.prog w base spare held fuel 37 [.slice a len cap] = some (d, ps) := by simpa [Value.cells] using hf
  obtain ⟨A, c, l, e, _, h2, _, _, _⟩ := open_row (K := celK) (P := fun _ => True) Try.underlying37 (by kernel_rfl) (by kernel_rfl) hf' hz cel_elem
  exact ⟨A, c, l, e, h2⟩
end
end Go.Proofs.Ytpklkjekkbpeoaa
