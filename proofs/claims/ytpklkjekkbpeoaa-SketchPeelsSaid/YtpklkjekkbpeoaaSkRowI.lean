/- DERIVED. What came in, opened: a slice of items, a slice of cells. -/
import Derived.Test.YtpklkjekkbpeoaaSkSort
import Derived.Test.YtpklkjekkbpeoaaRows
import Derived.Deep.Slices
import Derived.Deep.Fields
import Derived.ChangeSame
import Derived.SizedLaws
import Derived.WideShapes
import Derived.ProofKit
import Derived.Lib.SmallJoins
namespace Go.Proofs.Ytpklkjekkbpeoaa
open Go.RowKit Go.ChangeShapes Go.WideShapes Go.Deep
set_option linter.unusedVariables false
set_option linter.unusedSimpArgs false

theorem rows_of {α : Type} {K : GR.Kind α} {w : World} {a : Addr} {P : α → Prop} (len : Nat) (hb : len * K.b ≤ 140737488355328) (h : ∀ i, i < len → ∃ x : α, P x ∧ ∀ j u, (K.enc x)[j]? = some u → w.cell? (a.add (i * K.s + j)) = some u) :
    ∃ l : List α, l.length = len ∧ GR.Rd K w (some a) l ∧ ∀ x ∈ l, P x := by
  have hall : ∀ n, n ≤ len → ∃ l : List α, l.length = n ∧ (∀ i x, l[i]? = some x → P x ∧ ∀ j u, (K.enc x)[j]? = some u → w.cell? (a.add (i * K.s + j)) = some u) := by
    intro n
    induction n with
    | zero => exact fun _ => ⟨[], rfl, fun i e he => by simp at he⟩
    | succ n ih =>
      intro hn
      obtain ⟨l, hl1, hl2⟩ := ih (by omega)
      obtain ⟨e, he⟩ := h n (by omega)
      refine ⟨l ++ [e], by simp [hl1], fun i x hx => ?_⟩
      rcases Nat.lt_or_ge i l.length with h1 | h1
      · rw [List.getElem?_append_left h1] at hx
        exact hl2 i x hx
      · rw [List.getElem?_append_right h1] at hx
        have h0 : i - l.length = 0 := by
          rcases Nat.eq_zero_or_pos (i - l.length) with h | h
          · exact h
          · rw [List.getElem?_eq_none (by simp; omega)] at hx; cases hx
        rw [h0] at hx
        cases hx
        obtain rfl : i = n := by omega
        exact he
  obtain ⟨l, hl, hc⟩ := hall len (Nat.le_refl _)
  subst hl
  have hcell : ∀ k u, (GR.cs K l)[k]? = some u → w.cell? (a.add k) = some u := by
    intro k u hu
    obtain ⟨i, j, x, hx, _, rfl, hu2⟩ := GR.cs_of l k u hu
    exact (hc i x hx).2 j u hu2
  refine ⟨l, rfl, ⟨hb, GR.cs_length _, fun hn => ⟨a, rfl, ?_, hcell⟩⟩, fun x hx => ?_⟩
  · have h0 : 0 < (GR.cs K l).length := by rw [GR.cs_length]; exact Nat.mul_pos hn K.hs
    have := World.block_lt_of_cell? w _ (hcell 0 _ (List.getElem?_eq_getElem h0))
    simpa [Addr.add] using this
  · obtain ⟨i, hi⟩ := List.getElem?_of_mem hx
    exact (hc i x hi).1

section
variable {H : Type} {enc : TypeId × Value → H} {w : World} {base : Nat} {spare : Nat → Bool} {held : Bool}
/-- A slice of any kind of elements. -/
theorem open_row {α : Type} {K : GR.Kind α} {P : α → Prop} {t : TypeId} {fuel : Nat} {v : Value} {y : DataW H × List MemPlace} (ht : Try.prog.underlying t = some (.slice K.e)) (hC : Try.prog.cellsOf K.e = K.s) (hb : Try.prog.bytesOf K.e = K.b)
    (h : DataW.trod enc Try.prog w base spare held fuel t [v] = some y) (hz : ∀ n ∈ y.1.weights Try.prog t, n ≤ reachBytes)
    (he : ∀ n cs' z, DataW.trod enc Try.prog w base spare held n K.e cs' = some z → ∃ x, P x ∧ cs' = K.enc x) :
    ∃ (A : Option Addr) (c : Nat) (l : List α), v = .slice A l.length c ∧ l.length ≤ c ∧ GR.Rd K w A l ∧ l.length * K.b ≤ 140737488351232 ∧ (∀ x ∈ l, P x) ∧ (A = none → l = [] ∧ c = 0) := by
  have hre : reachBytes = 140737488351232 := by decide
  rcases open_slice ht h with ⟨hcs, _⟩ | ⟨a, len, cap, m, n, D, Pl, hcs, _, hl, hm, hmm, hx, hi⟩
  · simp only [List.cons.injEq, and_true] at hcs
    subst hcs
    exact ⟨none, 0, [], rfl, Nat.le_refl _, GR.Rd.nil _ _ _, by simp, (fun x hx => by cases hx), fun _ => ⟨rfl, rfl⟩⟩
  · simp only [List.cons.injEq, and_true] at hcs
    subst hcs
    subst hx
    have hlm : len ≤ m := by rw [hmm]; split <;> omega
    have z := hz ((len + (m - len)) * K.b) (by simp [DataW.weights, ht, hb])
    rw [hre] at z
    have hlen : len * K.b ≤ 140737488351232 := Nat.le_trans (Nat.mul_le_mul_right _ (by omega)) z
    obtain ⟨l, rfl, hr, hp⟩ := rows_of (K := K) (w := w) (a := a) (P := P) len (by omega) (fun i hil => by
      obtain ⟨cs', hc, ht'⟩ := hi i (by omega)
      obtain ⟨x, hx, rfl⟩ := he _ _ _ ht'
      obtain ⟨_, hcl, hat⟩ := World.cells?_some hc
      refine ⟨x, hx, fun j u hu => ?_⟩
      have hj : j < K.s := by have := (List.getElem?_eq_some_iff.1 hu).1; rw [K.len] at this; exact this
      have := hat j (by rw [hC]; exact hj)
      rw [hC] at this
      rw [← Go.Deep.add_add, this, hu])
    exact ⟨some a, cap, l, rfl, hl, hr, hlen, hp, fun h => by cases h⟩
theorem it_elem (n : Nat) (cs' : List Value) (z : DataW H × List MemPlace) (h : DataW.trod enc Try.prog w base spare held n 24 cs' = some z) : ∃ x : It, True ∧ cs' = itK.enc x := by
  obtain ⟨s0, e0, _, w0⟩ := DataW.trod_int Try.underlying24 h
  have hb := Go.bounds_u64 w0
  refine ⟨BitVec.ofNat 64 s0.toNat, trivial, ?_⟩
  rw [e0]
  show [Value.int .u64 s0] = [Value.int .u64 (((BitVec.ofNat 64 s0.toNat).toNat : Nat) : Int)]
  rw [BitVec.toNat_ofNat]
  have : ((s0.toNat % 2 ^ 64 : Nat) : Int) = s0 := by omega
  rw [this]
theorem weights_of {ts : List TypeId} {ds : List (DataW H)} (h : (DataW.weightsEach Try.prog ts ds).all (· ≤ reachBytes) = true) {j : Nat} {t : TypeId} {d : DataW H} (ht : ts[j]? = some t) (hd : ds[j]? = some d) : ∀ n ∈ d.weights Try.prog t, n ≤ reachBytes := fun n hn => by
  have := List.all_eq_true.1 h _ (DataW.weights_mem_each ht hd n hn)
  simpa using this
set_option maxRecDepth 100000 in
theorem open_its {r : Reach} {b0 : Nat} {v : Value} {d : DataW H} {ps : List MemPlace} (hv : Value.okWide Try.prog w r b0 33 v) (h : DataW.Trod enc Try.prog w base spare held 33 v d ps) (hz : ∀ n ∈ d.weights Try.prog 33, n ≤ reachBytes) :
    ∃ (A : Option Addr) (c : Nat) (l : List It), v = .slice A l.length c ∧ GR.Rd itK w A l := by
  obtain ⟨a, len, cap, rfl⟩ := okWide_slice Try.underlying33 hv
  obtain ⟨fuel, hf⟩ := h
  have hf' : DataW.trod enc Try.prog w base spare held fuel 33 [.slice a len cap] = some (d, ps) := by simpa [Value.cells] using hf
  obtain ⟨A, c, l, e, _, h2, _, _, _⟩ := open_row (K := itK) (P := fun _ => True) Try.underlying33 (by kernel_rfl) (by kernel_rfl) hf' hz it_elem
  exact ⟨A, c, l, e, h2⟩
end
end Go.Proofs.Ytpklkjekkbpeoaa
