/- DERIVED. A slice of entries that came in, of small bulk: its length and its texts' sizes. -/
import Derived.Test.YtpklkjekkbpeoaaSegRowU
namespace Go.Proofs.Ytpklkjekkbpeoaa
open Go.RowKit Go.ChangeShapes Go.WideShapes Go.Deep
set_option linter.unusedVariables false
set_option linter.unusedSimpArgs false

theorem bulk_mem {H : Type} {d : DataW H} : ∀ {l : List (DataW H)}, d ∈ l → Rows.uptoBulk d ≤ Rows.uptoBulkAll l
  | [], h => by cases h
  | x :: r, h => by
    simp only [Rows.uptoBulkAll]
    rcases List.mem_cons.1 h with rfl | h
    · omega
    · have := bulk_mem h; omega

set_option maxRecDepth 100000 in
theorem open_entsC {H : Type} {enc : TypeId × Value → H} {w : World} {base : Nat} {spare : Nat → Bool} {held : Bool} {r : Reach} {b0 : Nat} {t : TypeId} {v : Value} {d : DataW H} {ps : List MemPlace}
    (ht : Try.prog.underlying t = some (.slice 23)) (hv : Value.okWide Try.prog w r b0 t v) (h : DataW.Trod enc Try.prog w base spare held t v d ps) (hu : Rows.uptoBulk d ≤ 1048576) :
    ∃ (A : Option Addr) (c : Nat) (l : List Ent), v = .slice A l.length c ∧ l.length ≤ c ∧ Rd w A l ∧ l.length ≤ 1048576 ∧ ∀ e ∈ l, e.key.size ≤ 1048576 ∧ e.sum.size ≤ 1048576 := by
  obtain ⟨a, len, cap, rfl⟩ := okWide_slice ht hv
  obtain ⟨fuel, hf⟩ := h
  rcases open_slice_fields ht Try.underlying23 (by kernel_rfl) (by kernel_rfl) hf with ⟨hcs, _⟩ | ⟨a', len', cap', m, D, Pl, hcs, _, hl, hm, hmm, hx, hi⟩
  · simp [Value.cells] at hcs
    obtain ⟨rfl, rfl, rfl⟩ := hcs
    exact ⟨none, 0, [], rfl, Nat.le_refl _, Rd.nil _ _, Nat.zero_le _, fun _ h => by cases h⟩
  · simp [Value.cells] at hcs
    obtain ⟨rfl, rfl, rfl⟩ := hcs
    obtain ⟨rfl, _⟩ := Prod.mk.inj hx
    have hlm : len ≤ m := by rw [hmm]; split <;> omega
    have h1 := bulk_length ((List.range len).map D)
    rw [List.length_map, List.length_range] at h1
    simp only [Rows.uptoBulk] at hu
    have hlen : len ≤ 1048576 := by omega
    have hone : ∀ i, i < len → ∃ e : Ent, (w.cell? (a'.add (i * 2)) = some (.string e.key) ∧ w.cell? ⟨(a'.add (i * 2)).block, (a'.add (i * 2)).off + 1, none⟩ = some (.string e.sum)) ∧ e.key.size ≤ 1048576 ∧ e.sum.size ≤ 1048576 := by
      intro i hil
      obtain ⟨ys, n, hD, _, _, hf2⟩ := hi i (by omega)
      obtain ⟨v0, y0, hc0, hy0, ht0⟩ := hf2 0 _ rfl
      obtain ⟨v1, y1, hc1, hy1, ht1⟩ := hf2 1 _ rfl
      obtain ⟨s0, e0, x0, _⟩ := DataW.trod_string Try.underlying9 ht0
      obtain ⟨s1, e1, x1, _⟩ := DataW.trod_string Try.underlying9 ht1
      simp only [List.cons.injEq, and_true] at e0 e1
      subst e0 e1
      have hDb : Rows.uptoBulk (D i) ≤ 1048576 := by
        have := bulk_mem (List.mem_map_of_mem (f := D) (List.mem_range.2 hil))
        omega
      rw [hD] at hDb
      simp only [Rows.uptoBulk] at hDb
      have m0 := bulk_mem (List.mem_map_of_mem (f := (·.1)) (List.mem_of_getElem? hy0))
      have m1 := bulk_mem (List.mem_map_of_mem (f := (·.1)) (List.mem_of_getElem? hy1))
      rw [x0] at m0
      rw [x1] at m1
      simp only [Rows.uptoBulk] at m0 m1
      have z0 : s0.data.toList.length = s0.size := rfl
      have z1 : s1.data.toList.length = s1.size := rfl
      refine ⟨⟨s0, s1⟩, ⟨?_, ?_⟩, by show s0.size ≤ _; omega, by show s1.size ≤ _; omega⟩
      · simpa using hc0
      · rw [← add_half]; simpa using hc1
    have hall : ∀ n, n ≤ len → ∃ l : List Ent, l.length = n ∧ ∀ i e, l[i]? = some e → (w.cell? (a'.add (i * 2)) = some (.string e.key) ∧ w.cell? ⟨(a'.add (i * 2)).block, (a'.add (i * 2)).off + 1, none⟩ = some (.string e.sum)) ∧ e.key.size ≤ 1048576 ∧ e.sum.size ≤ 1048576 := by
      intro n
      induction n with
      | zero => exact fun _ => ⟨[], rfl, fun i e he => by simp at he⟩
      | succ n ih =>
        intro hn
        obtain ⟨l, hl1, hl2⟩ := ih (by omega)
        obtain ⟨e, he⟩ := hone n (by omega)
        refine ⟨l ++ [e], by simp [hl1], fun i x hx => ?_⟩
        rcases Nat.lt_or_ge i l.length with h1 | h1
        · rw [List.getElem?_append_left h1] at hx
          exact hl2 i x hx
        · rw [List.getElem?_append_right h1] at hx
          have h0 : i - l.length = 0 := by
            rcases Nat.eq_zero_or_pos (i - l.length) with h | h
            · exact h
            · rw [List.getElem?_eq_none (by simp; omega)] at hx; cases hx
          rw [h0] at hx
          cases hx
          obtain rfl : i = n := by omega
          exact he
    obtain ⟨l, hl1, hl2⟩ := hall len (Nat.le_refl _)
    subst hl1
    refine ⟨some a', _, l, rfl, hl, ⟨by omega, fun _ => ⟨a', rfl, fun i e he => (hl2 i e he).1⟩⟩, hlen, fun e he => ?_⟩
    obtain ⟨i, hi⟩ := List.getElem?_of_mem he
    exact (hl2 i e hi).2
end Go.Proofs.Ytpklkjekkbpeoaa
