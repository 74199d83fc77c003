/- DERIVED. A slice of items, a slice of numbers that came in, opened; their bulk. -/
import Derived.Test.YtejodabmddcanaaMrgK
import Derived.Test.YtejodabmddcanaaSegRowU
import Derived.ChangeSlices
import Derived.OpenShut
namespace Go.Proofs.Ytejodabmddcanaa
open Go.RowKit Go.ChangeShapes Go.WideShapes Go.Deep

theorem rows_of {α : Type} {K : GR.Kind α} {w : World} {a : Addr} {P : α → Prop} (len : Nat) (hb : len * K.b ≤ 140737488355328) (h : ∀ i, i < len → ∃ x : α, P x ∧ ∀ j u, (K.enc x)[j]? = some u → w.cell? (a.add (i * K.s + j)) = some u) :
    ∃ l : List α, l.length = len ∧ GR.Rd K w (some a) l ∧ ∀ x ∈ l, P x := by
  have hall : ∀ n, n ≤ len → ∃ l : List α, l.length = n ∧ (∀ i x, l[i]? = some x → P x ∧ ∀ j u, (K.enc x)[j]? = some u → w.cell? (a.add (i * K.s + j)) = some u) := by
    intro n
    induction n with
    | zero => exact fun _ => ⟨[], rfl, fun i e he => by simp at he⟩
    | succ n ih =>
      intro hn
      obtain ⟨l, hl1, hl2⟩ := ih (by omega)
      obtain ⟨e, he⟩ := h n (by omega)
      refine ⟨l ++ [e], by simp [hl1], fun i x hx => ?_⟩
      rcases Nat.lt_or_ge i l.length with h1 | h1
      · rw [List.getElem?_append_left h1] at hx
        exact hl2 i x hx
      · rw [List.getElem?_append_right h1] at hx
        have h0 : i - l.length = 0 := by
          rcases Nat.eq_zero_or_pos (i - l.length) with h | h
          · exact h
          · rw [List.getElem?_eq_none (by simp; omega)] at hx; cases hx
        rw [h0] at hx
        cases hx
        obtain rfl : i = n := by omega
        exact he
  obtain ⟨l, hl, hc⟩ := hall len (Nat.le_refl _)
  subst hl
  have hcell : ∀ k u, (GR.cs K l)[k]? = some u → w.cell? (a.add k) = some u := by
    intro k u hu
    obtain ⟨i, j, x, hx, _, rfl, hu2⟩ := GR.cs_of l k u hu
    exact (hc i x hx).2 j u hu2
  refine ⟨l, rfl, ⟨hb, GR.cs_length _, fun hn => ⟨a, rfl, ?_, hcell⟩⟩, fun x hx => ?_⟩
  · have h0 : 0 < (GR.cs K l).length := by rw [GR.cs_length]; exact Nat.mul_pos hn K.hs
    have := World.block_lt_of_cell? w _ (hcell 0 _ (List.getElem?_eq_getElem h0))
    simpa [Addr.add] using this
  · obtain ⟨i, hi⟩ := List.getElem?_of_mem hx
    exact (hc i x hi).1

section
variable {H : Type} {enc : TypeId × Value → H} {w : World} {base : Nat} {spare : Nat → Bool} {held : Bool}
set_option maxRecDepth 100000 in
theorem open_items {r : Reach} {b0 : Nat} {t : TypeId} {v : Value} {d : DataW H} {ps : List MemPlace} (ht : Try.prog.underlying t = some (.slice 28)) (hv : Value.okWide Try.prog w r b0 t v) (h : DataW.Trod enc Try.prog w base spare held t v d ps) (hu : Rows.uptoBulk d ≤ 1048576) :
    ∃ (A : Option Addr) (c : Nat) (l : List Itm), v = .slice A l.length c ∧ GR.Rd itmK w A l ∧ l.length ≤ 1048576 := by
  obtain ⟨a, len, cap, rfl⟩ := okWide_slice ht hv
  obtain ⟨fuel, hf⟩ := h
  rcases open_slice_fields ht Try.underlying28 (by kernel_rfl) (by kernel_rfl) hf with ⟨hcs, _⟩ | ⟨a', len', cap', m, D, Pl, hcs, _, hl, hm, hmm, hx, hi⟩
  · simp [Value.cells] at hcs
    obtain ⟨rfl, rfl, rfl⟩ := hcs
    exact ⟨none, 0, [], rfl, GR.Rd.nil _ _ _, Nat.zero_le _⟩
  · simp [Value.cells] at hcs
    obtain ⟨rfl, rfl, rfl⟩ := hcs
    obtain ⟨rfl, _⟩ := Prod.mk.inj hx
    have h1 := bulk_length ((List.range len).map D)
    rw [List.length_map, List.length_range] at h1
    simp only [Rows.uptoBulk] at hu
    have hlen : len ≤ 1048576 := by omega
    have hlm : len ≤ m := by rw [hmm]; split <;> omega
    obtain ⟨l, rfl, hr, _⟩ := rows_of (K := itmK) (w := w) (a := a') (P := fun _ => True) len (by show len * 24 ≤ _; omega) (fun i hil => by
      obtain ⟨ys, n, _, _, _, hf2⟩ := hi i (by omega)
      obtain ⟨v0, y0, hc0, _, ht0⟩ := hf2 0 _ rfl
      obtain ⟨v1, y1, hc1, _, ht1⟩ := hf2 1 _ rfl
      obtain ⟨s0, e0, _⟩ := DataW.trod_string Try.underlying9 ht0
      obtain ⟨s1, e1, _⟩ := DataW.trod_int Try.underlying3 ht1
      simp only [List.cons.injEq, and_true] at e0 e1
      subst e0 e1
      refine ⟨⟨s0, s1⟩, trivial, fun j u hu => ?_⟩
      match j, hu with
      | 0, hu => cases hu; exact hc0
      | 1, hu => cases hu; exact hc1)
    exact ⟨some a', _, l, rfl, hr, hlen⟩

set_option maxRecDepth 100000 in
theorem open_nums {r : Reach} {b0 : Nat} {t : TypeId} {v : Value} {d : DataW H} {ps : List MemPlace} (ht : Try.prog.underlying t = some (.slice 5)) (hv : Value.okWide Try.prog w r b0 t v) (h : DataW.Trod enc Try.prog w base spare held t v d ps) (hu : Rows.uptoBulk d ≤ 1048576) :
    ∃ (A : Option Addr) (c : Nat) (l : List Int), v = .slice A l.length c ∧ GR.Rd bytK w A l ∧ l.length ≤ 1048576 ∧ ∀ y ∈ l, 0 ≤ y ∧ y ≤ 255 := by
  obtain ⟨a, len, cap, rfl⟩ := okWide_slice ht hv
  obtain ⟨fuel, hf⟩ := h
  rcases open_ints ht Try.underlying5 (by kernel_rfl) hf with ⟨hcs, _⟩ | ⟨a', len', cap', zs, hcs, _, hl, hm, hz, hx, hcell, hwz⟩
  · simp [Value.cells] at hcs
    obtain ⟨rfl, rfl, rfl⟩ := hcs
    exact ⟨none, 0, [], rfl, GR.Rd.nil _ _ _, Nat.zero_le _, fun y hy => by cases hy⟩
  · simp [Value.cells] at hcs
    obtain ⟨rfl, rfl, rfl⟩ := hcs
    obtain ⟨rfl, _⟩ := Prod.mk.inj hx
    have hzl : len ≤ zs.length := by rw [hz]; split <;> omega
    have h1 := bulk_length (lits (H := H) .u8 (zs.take len))
    have h2 : (lits (H := H) .u8 (zs.take len)).length = len := by simp [lits]; omega
    simp only [Rows.uptoBulk] at hu
    have hlen : len ≤ 1048576 := by omega
    obtain ⟨l, rfl, hr, hp⟩ := rows_of (K := bytK) (w := w) (a := a') (P := fun y => 0 ≤ y ∧ y ≤ 255) len (by show len * 1 ≤ _; omega) (fun i hil => by
      refine ⟨zs.getD i 0, ?_, fun j u hu => ?_⟩
      · have := range_u8 hwz i
        simpa using this
      · match j, hu with
        | 0, hu =>
          cases hu
          have := hcell i (by omega)
          simpa [bytK] using this)
    exact ⟨some a', _, l, rfl, hr, hlen, hp⟩
end
end Go.Proofs.Ytejodabmddcanaa
