/- DERIVED. An object that came in, opened, with its values' sizes. -/
import Derived.Test.YtljfigikkajlnaaVm13
namespace Go.Proofs.Ytljfigikkajlnaa
open Go.RowKit Go.ChangeShapes Go.WideShapes Go.Deep
set_option linter.unusedVariables false
set_option linter.unusedSimpArgs false
theorem mem_weightsAll {H : Type} {P : Program} {e : TypeId} : ∀ {l : List (DataW H)} {d : DataW H} {n : Nat}, d ∈ l → n ∈ d.weights P e → n ∈ DataW.weightsAll P e l
  | x :: l, d, n, hd, hn => by
    rw [DataW.weightsAll, List.mem_append]
    rcases List.mem_cons.1 hd with rfl | hd
    · exact .inl hn
    · exact .inr (mem_weightsAll hd hn)
def SibR (x : Sib) : Prop := DotR x.d ∧ x.v.data.toList.length ≤ reachBytes
section
variable {H : Type} {enc : TypeId × Value → H} {w : World} {base : Nat} {spare : Nat → Bool} {held : Bool}
theorem open_rowW {α : Type} {K : GR.Kind α} {P : α → Prop} {t : TypeId} {fuel : Nat} {v : Value} {y : DataW H × List MemPlace} (ht : Try.prog.underlying t = some (.slice K.e)) (hC : Try.prog.cellsOf K.e = K.s) (hb : Try.prog.bytesOf K.e = K.b)
    (h : DataW.trod enc Try.prog w base spare held fuel t [v] = some y) (hz : ∀ n ∈ y.1.weights Try.prog t, n ≤ reachBytes)
    (he : ∀ n cs' z, DataW.trod enc Try.prog w base spare held n K.e cs' = some z → (∀ k ∈ z.1.weights Try.prog K.e, k ≤ reachBytes) → ∃ x, P x ∧ cs' = K.enc x) :
    ∃ (A : Option Addr) (c : Nat) (l : List α), v = .slice A l.length c ∧ l.length ≤ c ∧ GR.Rd K w A l ∧ l.length * K.b ≤ 140737488351232 ∧ (∀ x ∈ l, P x) ∧ (A = none → l = [] ∧ c = 0) := by
  have hre : reachBytes = 140737488351232 := by decide
  rcases open_slice ht h with ⟨hcs, _⟩ | ⟨a, len, cap, m, n, D, Pl, hcs, _, hl, hm, hmm, hx, hi⟩
  · simp only [List.cons.injEq, and_true] at hcs
    subst hcs
    exact ⟨none, 0, [], rfl, Nat.le_refl _, GR.Rd.nil _ _ _, by simp, (fun x hx => by cases hx), fun _ => ⟨rfl, rfl⟩⟩
  · simp only [List.cons.injEq, and_true] at hcs
    subst hcs
    subst hx
    have hlm : len ≤ m := by rw [hmm]; split <;> omega
    have z := hz ((len + (m - len)) * K.b) (by simp [DataW.weights, ht, hb])
    rw [hre] at z
    have hlen : len * K.b ≤ 140737488351232 := Nat.le_trans (Nat.mul_le_mul_right _ (by omega)) z
    obtain ⟨l, rfl, hr, hp⟩ := rows_of (K := K) (w := w) (a := a) (P := P) len (by omega) (fun i hil => by
      obtain ⟨cs', hc, ht'⟩ := hi i (by omega)
      obtain ⟨x, hx, rfl⟩ := he _ _ _ ht' (fun k hk => hz k (by
        simp only [DataW.weights, ht, List.mem_cons, List.mem_append]
        exact .inr (.inl (mem_weightsAll (List.mem_map.2 ⟨i, List.mem_range.2 hil, rfl⟩) hk))))
      obtain ⟨_, hcl, hat⟩ := World.cells?_some hc
      refine ⟨x, hx, fun j u hu => ?_⟩
      have hj : j < K.s := by have := (List.getElem?_eq_some_iff.1 hu).1; rw [K.len] at this; exact this
      have := hat j (by rw [hC]; exact hj)
      rw [hC] at this
      rw [← Go.Deep.add_add, this, hu])
    exact ⟨some a, cap, l, rfl, hl, hr, hlen, hp, fun h => by cases h⟩
set_option maxRecDepth 100000 in
theorem sib_elemV (n : Nat) (cs' : List Value) (z : DataW H × List MemPlace) (h : DataW.trod enc Try.prog w base spare held n 67 cs' = some z) (hz : ∀ k ∈ z.1.weights Try.prog 67, k ≤ reachBytes) : ∃ x : Sib, SibR x ∧ cs' = sibK.enc x := by
  obtain ⟨y0, y1, y2, n', rfl, hl, h0, h1, h2⟩ := trod_struct3 Try.underlying67 h
  rw [show Try.prog.cellsOf 67 = 4 by kernel_rfl] at hl
  match cs', hl with
  | [c0, c1, c2, c3], _ =>
    obtain ⟨s1, e1, _⟩ := DataW.trod_bool Try.underlying4 h1
    obtain ⟨s2, e2, q2, _⟩ := DataW.trod_string Try.underlying9 h2
    have z2 : s2.data.toList.length ≤ reachBytes := hz _ (by
      simp only [DataW.weights, Try.underlying67, DataW.weightsEach, List.map_cons, List.map_nil, List.mem_append]
      exact .inr (.inr (.inl (by rw [q2]; simp [DataW.weights]))))
    obtain ⟨x, hx0, e0⟩ := dot_elem _ _ _ h0
    change List.take (Try.prog.cellsOf 41) (List.drop 0 [c0, c1, c2, c3]) = _ at e0
    change List.take (Try.prog.cellsOf 4) (List.drop 2 [c0, c1, c2, c3]) = _ at e1
    change List.take (Try.prog.cellsOf 9) (List.drop 3 [c0, c1, c2, c3]) = _ at e2
    rw [show Try.prog.cellsOf 41 = 2 by kernel_rfl] at e0
    rw [show Try.prog.cellsOf 4 = 1 by kernel_rfl] at e1
    rw [show Try.prog.cellsOf 9 = 1 by kernel_rfl] at e2
    simp only [dotK, List.drop_zero, List.drop_succ_cons, List.take_succ_cons, List.take_zero, List.cons.injEq, and_true] at e0 e1 e2
    obtain ⟨rfl, rfl⟩ := e0
    subst e1 e2
    exact ⟨⟨x, s1, s2⟩, ⟨hx0, z2⟩, rfl⟩
set_option maxRecDepth 100000 in
/-- A state's two cells. -/
theorem state_cellsV {n : Nat} {cs' : List Value} {z : DataW H × List MemPlace} (h : DataW.trod enc Try.prog w base spare held n 25 cs' = some z) (hz : ∀ n ∈ z.1.weights Try.prog 25, n ≤ reachBytes) :
    ∃ (A B : Option Addr) (c d : Nat) (a : List Dot) (l : List Sib), cs' = [.slice A a.length c, .slice B l.length d] ∧ a.length ≤ c ∧ l.length ≤ d ∧ GR.Rd dotK w A a ∧ GR.Rd sibK w B l ∧ a.length * 16 ≤ 140737488351232 ∧ l.length * 40 ≤ 140737488351232 ∧
      (∀ x ∈ a, DotR x) ∧ (∀ x ∈ l, SibR x) := by
  obtain ⟨y0, y1, n', rfl, hl, hy0, hy1⟩ := trod_struct2 Try.underlying25 h
  rw [show Try.prog.cellsOf 25 = 2 by kernel_rfl] at hl
  match cs', hl with
  | [c0, c1], _ =>
    change DataW.trod enc Try.prog w base spare held n' 22 (List.take (Try.prog.cellsOf 22) (List.drop 0 [c0, c1])) = _ at hy0
    change DataW.trod enc Try.prog w base spare held n' 23 (List.take (Try.prog.cellsOf 23) (List.drop 1 [c0, c1])) = _ at hy1
    rw [show Try.prog.cellsOf 22 = 1 by kernel_rfl] at hy0
    rw [show Try.prog.cellsOf 23 = 1 by kernel_rfl] at hy1
    simp only [List.drop_zero, List.drop_succ_cons, List.take_succ_cons, List.take_zero] at hy0 hy1
    have hw : ∀ n, n ∈ y0.1.weights Try.prog 22 ∨ n ∈ y1.1.weights Try.prog 23 → n ≤ reachBytes := fun n hn => hz n (by
      simp only [DataW.weights, Try.underlying25, DataW.weightsEach, List.map_cons, List.map_nil, List.mem_append]
      rcases hn with hn | hn
      · exact .inl hn
      · exact .inr (.inl hn))
    obtain ⟨A, c, a, rfl, h1, h2, h3, h4, _⟩ := open_row (K := dotK) Try.underlying22 (by kernel_rfl) (by kernel_rfl) hy0 (fun n hn => hw n (.inl hn)) dot_elem
    obtain ⟨B, d, l, rfl, k1, k2, k3, k4, _⟩ := open_rowW (K := sibK) Try.underlying23 (by kernel_rfl) (by kernel_rfl) hy1 (fun n hn => hw n (.inr hn)) sib_elemV
    exact ⟨A, B, c, d, a, l, rfl, h1, k1, h2, k2, h3, k3, h4, k4⟩
set_option maxRecDepth 100000 in
/-- An object's three cells. -/
theorem object_cellsV {n : Nat} {cs' : List Value} {z : DataW H × List MemPlace} (h : DataW.trod enc Try.prog w base spare held n 27 cs' = some z) (hz : ∀ n ∈ z.1.weights Try.prog 27, n ≤ reachBytes) :
    ∃ (k : ByteArray) (A B : Option Addr) (c d : Nat) (a : List Dot) (l : List Sib), cs' = [.string k, .slice A a.length c, .slice B l.length d] ∧ k.size ≤ 140737488351232 ∧ a.length ≤ c ∧ l.length ≤ d ∧ GR.Rd dotK w A a ∧ GR.Rd sibK w B l ∧ a.length * 16 ≤ 140737488351232 ∧ l.length * 40 ≤ 140737488351232 ∧
      (∀ x ∈ a, DotR x) ∧ (∀ x ∈ l, SibR x) := by
  have hre : reachBytes = 140737488351232 := by decide
  obtain ⟨y0, y1, n', rfl, hl, hy0, hy1⟩ := trod_struct2 Try.underlying27 h
  rw [show Try.prog.cellsOf 27 = 3 by kernel_rfl] at hl
  match cs', hl with
  | [c0, c1, c2], _ =>
    change DataW.trod enc Try.prog w base spare held n' 9 (List.take (Try.prog.cellsOf 9) (List.drop 0 [c0, c1, c2])) = _ at hy0
    change DataW.trod enc Try.prog w base spare held n' 25 (List.take (Try.prog.cellsOf 25) (List.drop 1 [c0, c1, c2])) = _ at hy1
    rw [show Try.prog.cellsOf 9 = 1 by kernel_rfl] at hy0
    rw [show Try.prog.cellsOf 25 = 2 by kernel_rfl] at hy1
    simp only [List.drop_zero, List.drop_succ_cons, List.take_succ_cons, List.take_zero] at hy0 hy1
    have hw : ∀ n, n ∈ y0.1.weights Try.prog 9 ∨ n ∈ y1.1.weights Try.prog 25 → n ≤ reachBytes := fun n hn => hz n (by
      simp only [DataW.weights, Try.underlying27, DataW.weightsEach, List.map_cons, List.map_nil, List.mem_append]
      rcases hn with hn | hn
      · exact .inl hn
      · exact .inr (.inl hn))
    obtain ⟨s0, e0, x0, _⟩ := DataW.trod_string Try.underlying9 hy0
    simp only [List.cons.injEq, and_true] at e0
    subst e0
    have z0 := hw s0.data.toList.length (.inl (by rw [x0]; simp [DataW.weights]))
    rw [hre] at z0
    obtain ⟨A, B, c, d, a, l, e1, h1, h2, h3, h4, h5, h6, h7, h8⟩ := state_cellsV hy1 (fun n hn => hw n (.inr hn))
    simp only [List.cons.injEq, and_true] at e1
    obtain ⟨rfl, rfl⟩ := e1
    exact ⟨s0, A, B, c, d, a, l, rfl, z0, h1, h2, h3, h4, h5, h6, h7, h8⟩
set_option maxRecDepth 100000 in
theorem open_objectV {r : Reach} {b0 : Nat} {v : Value} {d : DataW H} {ps : List MemPlace} (hv : Value.okWide Try.prog w r b0 27 v) (h : DataW.Trod enc Try.prog w base spare held 27 v d ps) (hz : ∀ n ∈ d.weights Try.prog 27, n ≤ reachBytes) :
    ∃ (k : ByteArray) (A B : Option Addr) (c d : Nat) (a : List Dot) (l : List Sib), v = .agg #[.string k, .slice A a.length c, .slice B l.length d] ∧ k.size ≤ 140737488351232 ∧ a.length ≤ c ∧ l.length ≤ d ∧ GR.Rd dotK w A a ∧ GR.Rd sibK w B l ∧ a.length * 16 ≤ 140737488351232 ∧ l.length * 40 ≤ 140737488351232 ∧
      (∀ x ∈ a, DotR x) ∧ (∀ x ∈ l, SibR x) := by
  obtain ⟨cs, rfl, hsz⟩ := okWide_struct Try.underlying27 hv
  obtain ⟨fuel, hf⟩ := h
  obtain ⟨k, A, B, c, d', a, l, e, hh⟩ := object_cellsV hf hz
  refine ⟨k, A, B, c, d', a, l, ?_, hh⟩
  have : cs.toList = [.string k, .slice A a.length c, .slice B l.length d'] := e
  rw [← Array.toArray_toList (xs := cs), this]
end
theorem sibr_dot {l : List Sib} (h : ∀ x ∈ l, SibR x) : ∀ x ∈ l, DotR x.d := fun x hx => (h x hx).1
theorem sibr_v {l : List Sib} (h : ∀ x ∈ l, SibR x) : ∀ x ∈ l, x.v.size ≤ 140737488351232 := fun x hx => by
  have := (h x hx).2
  rw [show reachBytes = 140737488351232 from by decide] at this
  exact this
end Go.Proofs.Ytljfigikkajlnaa
