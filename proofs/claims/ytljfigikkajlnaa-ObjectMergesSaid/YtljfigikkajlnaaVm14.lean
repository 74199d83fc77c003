/- DERIVED. Contracts of chapter 13 with their answers named, for the walks of the laws. A state that came in, opened: its dots, its siblings, their bulk. -/
import Derived.Test.YtljfigikkajlnaaVm5
import Derived.Test.YtljfigikkajlnaaVm11
import Derived.Test.YtljfigikkajlnaaVObTwin
import Derived.Deep.Slices
import Derived.Deep.Fields
import Derived.ChangeSame
import Derived.SizedLaws
import Derived.WideShapes
import Derived.ProofKit
import Derived.Lib.SmallJoins
namespace Go.Proofs.Ytljfigikkajlnaa
open Go.RowKit Go.Lib Go.Proofs.YtljfigikkajlnaaW.PrintWords
set_option linter.unusedVariables false
set_option linter.unusedSimpArgs false
attribute [local go_sem high] eqD eqCell
theorem rd_take {α : Type} {K : GR.Kind α} {w : World} {B g n c : Nat} {l m : List α} (h : GR.Own K w B (.slice (some ⟨g, 0, none⟩) n c) (l ++ m)) (hb : l.length * K.b ≤ 140737488355328) : GR.Rd K w (some ⟨g, 0, none⟩) l := (h.take.rd hb).2.2
theorem own_cap {α : Type} {K : GR.Kind α} {w : World} {B n c : Nat} {A : Option Addr} {l : List α} (h : GR.Own K w B (.slice A n c) l) : l.length ≤ c := by
 rcases h.2 with ⟨hv, h0⟩ | ⟨_, _, _, hv, h1, _⟩
 · rw [h0]; exact Nat.zero_le _
 · injection hv with _ _ h2; omega
/-- A twin whose marks are of no matter. -/
theorem twinR_any (key : ByteArray) (A B : Option Addr) (c d : Nat) (a : List Dot) (l : List Sib) (w : World) (ha : GR.Rd dotK w A a) (hl : GR.Rd sibK w B l) (sa : a.length * 16 ≤ 140737488351232) (sl : l.length * 40 ≤ 140737488351232) :
 Calls Try.prog 10 #[.agg #[.string key, .slice A a.length c, .slice B l.length d]] w fun e w' => ∃ (A' B' : Option Addr) (c1 c2 : Nat), e = .returned (.agg #[.string key, .slice A' a.length c1, .slice B' l.length c2]) ∧
  GR.Rd dotK w' A' a ∧ GR.Rd sibK w' B' l ∧ a.length ≤ c1 ∧ l.length ≤ c2 ∧ Below w.heap.size w w' := by
 refine (obTwin_any key A B c d a l w ha hl sa sl).mono ?_
 rintro e w3 ⟨g1, d1, g2, d2, rfl, ho, hb⟩
 have k1 := own_cap ho.d
 have k2 := own_cap ho.s
 rw [List.length_append] at k1 k2
 exact ⟨_, _, _, _, rfl, rd_take ho.d (by show a.length * 16 ≤ _; omega), rd_take ho.s (by show l.length * 40 ≤ _; omega), Nat.le_trans (Nat.le_add_right _ _) k1, Nat.le_trans (Nat.le_add_right _ _) k2, hb⟩
section
variable {key : ByteArray} {A C : Option Addr} {n c m d : Nat} {a : List Dot} {l : List Sib} {w : World}
theorem checkq (x : Int) (ha : GR.Rd dotK w A a) (hl : GR.Rd sibK w C l) (hn : n = a.length) (hm : m = l.length) (hr : StR a l) (hx : chkE key a l = x) :
 Calls Try.prog 29 #[.agg #[.string key, .slice A n c, .slice C m d]] w fun e w' => e = .returned (.int .i64 x) ∧ Below w.heap.size w w' := by
 have h := check_any key A C n c m d a l w ha hl hn hm hr
 rw [hx] at h
 exact h
end
section
variable {k1 k2 : ByteArray} {A B C D : Option Addr} {c1 c2 c3 c4 n1 n2 n3 n4 : Nat} {a b : List Dot} {l m : List Sib} {w : World}
theorem lsameq (r : Bool) (ha : GR.Rd dotK w A a) (hl : GR.Rd sibK w B l) (hb : GR.Rd dotK w C b) (hm : GR.Rd sibK w D m) (h1 : n1 = a.length) (h2 : n2 = l.length) (h3 : n3 = b.length) (h4 : n4 = m.length) (hr : (decide (k1 = k2) && stEq a l b m) = r) :
 Calls Try.prog 19 #[.agg #[.string k1, .slice A n1 c1, .slice B n2 c2], .agg #[.string k2, .slice C n3 c3, .slice D n4 c4]] w fun e w' => e = .returned (.bool r) ∧ Below w.heap.size w w' :=
 lsame_any k1 k2 A B C D c1 c2 c3 c4 n1 n2 n3 n4 a b l m r w ha hl hb hm h1 h2 h3 h4 hr
end
end Go.Proofs.Ytljfigikkajlnaa
namespace Go.Proofs.Ytljfigikkajlnaa
open Go.RowKit Go.ChangeShapes Go.WideShapes Go.Deep
set_option linter.unusedVariables false
set_option linter.unusedSimpArgs false
theorem rows_of {α : Type} {K : GR.Kind α} {w : World} {a : Addr} {P : α → Prop} (len : Nat) (hb : len * K.b ≤ 140737488355328) (h : ∀ i, i < len → ∃ x : α, P x ∧ ∀ j u, (K.enc x)[j]? = some u → w.cell? (a.add (i * K.s + j)) = some u) :
 ∃ l : List α, l.length = len ∧ GR.Rd K w (some a) l ∧ ∀ x ∈ l, P x := by
 have hall : ∀ n, n ≤ len → ∃ l : List α, l.length = n ∧ (∀ i x, l[i]? = some x → P x ∧ ∀ j u, (K.enc x)[j]? = some u → w.cell? (a.add (i * K.s + j)) = some u) := by
  intro n
  induction n with
  | zero => exact fun _ => ⟨[], rfl, fun i e he => by simp at he⟩
  | succ n ih =>
   intro hn
   obtain ⟨l, hl1, hl2⟩ := ih (by omega)
   obtain ⟨e, he⟩ := h n (by omega)
   refine ⟨l ++ [e], by simp [hl1], fun i x hx => ?_⟩
   rcases Nat.lt_or_ge i l.length with h1 | h1
   · rw [List.getElem?_append_left h1] at hx
     exact hl2 i x hx
   · rw [List.getElem?_append_right h1] at hx
     have h0 : i - l.length = 0 := by
      rcases Nat.eq_zero_or_pos (i - l.length) with h | h
      · exact h
      · rw [List.getElem?_eq_none (by simp; omega)] at hx; cases hx
     rw [h0] at hx
     cases hx
     obtain rfl : i = n := by omega
     exact he
 obtain ⟨l, hl, hc⟩ := hall len (Nat.le_refl _)
 subst hl
 have hcell : ∀ k u, (GR.cs K l)[k]? = some u → w.cell? (a.add k) = some u := by
  intro k u hu
  obtain ⟨i, j, x, hx, _, rfl, hu2⟩ := GR.cs_of l k u hu
  exact (hc i x hx).2 j u hu2
 refine ⟨l, rfl, ⟨hb, GR.cs_length _, fun hn => ⟨a, rfl, ?_, hcell⟩⟩, fun x hx => ?_⟩
 · have h0 : 0 < (GR.cs K l).length := by rw [GR.cs_length]; exact Nat.mul_pos hn K.hs
   have := World.block_lt_of_cell? w _ (hcell 0 _ (List.getElem?_eq_getElem h0))
   simpa [Addr.add] using this
 · obtain ⟨i, hi⟩ := List.getElem?_of_mem hx
   exact (hc i x hi).1
section
variable {H : Type} {enc : TypeId × Value → H} {w : World} {base : Nat} {spare : Nat → Bool} {held : Bool}
/-- A slice of any kind of elements. -/
theorem open_row {α : Type} {K : GR.Kind α} {P : α → Prop} {t : TypeId} {fuel : Nat} {v : Value} {y : DataW H × List MemPlace} (ht : Try.prog.underlying t = some (.slice K.e)) (hC : Try.prog.cellsOf K.e = K.s) (hb : Try.prog.bytesOf K.e = K.b)
 (h : DataW.trod enc Try.prog w base spare held fuel t [v] = some y) (hz : ∀ n ∈ y.1.weights Try.prog t, n ≤ reachBytes)
 (he : ∀ n cs' z, DataW.trod enc Try.prog w base spare held n K.e cs' = some z → ∃ x, P x ∧ cs' = K.enc x) :
 ∃ (A : Option Addr) (c : Nat) (l : List α), v = .slice A l.length c ∧ l.length ≤ c ∧ GR.Rd K w A l ∧ l.length * K.b ≤ 140737488351232 ∧ (∀ x ∈ l, P x) ∧ (A = none → l = [] ∧ c = 0) := by
 have hre : reachBytes = 140737488351232 := by decide
 rcases open_slice ht h with ⟨hcs, _⟩ | ⟨a, len, cap, m, n, D, Pl, hcs, _, hl, hm, hmm, hx, hi⟩
 · simp only [List.cons.injEq, and_true] at hcs
   subst hcs
   exact ⟨none, 0, [], rfl, Nat.le_refl _, GR.Rd.nil _ _ _, by simp, (fun x hx => by cases hx), fun _ => ⟨rfl, rfl⟩⟩
 · simp only [List.cons.injEq, and_true] at hcs
   subst hcs
   subst hx
   have hlm : len ≤ m := by rw [hmm]; split <;> omega
   have z := hz ((len + (m - len)) * K.b) (by simp [DataW.weights, ht, hb])
   rw [hre] at z
   have hlen : len * K.b ≤ 140737488351232 := Nat.le_trans (Nat.mul_le_mul_right _ (by omega)) z
   obtain ⟨l, rfl, hr, hp⟩ := rows_of (K := K) (w := w) (a := a) (P := P) len (by omega) (fun i hil => by
    obtain ⟨cs', hc, ht'⟩ := hi i (by omega)
    obtain ⟨x, hx, rfl⟩ := he _ _ _ ht'
    obtain ⟨_, hcl, hat⟩ := World.cells?_some hc
    refine ⟨x, hx, fun j u hu => ?_⟩
    have hj : j < K.s := by have := (List.getElem?_eq_some_iff.1 hu).1; rw [K.len] at this; exact this
    have := hat j (by rw [hC]; exact hj)
    rw [hC] at this
    rw [← Go.Deep.add_add, this, hu])
   exact ⟨some a, cap, l, rfl, hl, hr, hlen, hp, fun h => by cases h⟩
theorem nat_u64 {n : Int} (h : (Lit.int .u64 n).wf = true) : 0 ≤ n ∧ n ≤ 18446744073709551615 := by
 have := Go.bounds_u64 h
 omega
theorem nat_u32 {n : Int} (h : (Lit.int .u32 n).wf = true) : 0 ≤ n ∧ n ≤ 4294967295 := by
 have := Go.bounds_u32 h
 omega
set_option maxRecDepth 100000 in
theorem dot_elem (n : Nat) (cs' : List Value) (z : DataW H × List MemPlace) (h : DataW.trod enc Try.prog w base spare held n 41 cs' = some z) : ∃ x : Dot, (0 ≤ x.n ∧ x.n ≤ 18446744073709551615 ∧ 0 ≤ x.a ∧ x.a ≤ 4294967295) ∧ cs' = dotK.enc x := by
 obtain ⟨xs, n', _, _, hl, hxl, hf⟩ := DataW.trod_struct Try.underlying41 h
 rw [show Try.prog.cellsOf 41 = 2 by kernel_rfl] at hl
 match cs', hl with
 | [c0, c1], _ =>
  have h0 := hf 0 _ rfl
  have h1 := hf 1 _ rfl
  have hx : ∀ i, i < 2 → ∃ y, xs[i]? = some y := fun i hi => ⟨xs[i]'(by rw [hxl]; exact hi), List.getElem?_eq_getElem _⟩
  obtain ⟨y0, hy0⟩ := hx 0 (by omega)
  obtain ⟨y1, hy1⟩ := hx 1 (by omega)
  rw [hy0] at h0
  rw [hy1] at h1
  obtain ⟨s0, e0, _, w0⟩ := DataW.trod_int Try.underlying29 h0
  obtain ⟨s1, e1, _, w1⟩ := DataW.trod_int Try.underlying39 h1
  change List.take (Try.prog.cellsOf 29) (List.drop 0 [c0, c1]) = _ at e0
  change List.take (Try.prog.cellsOf 39) (List.drop 1 [c0, c1]) = _ at e1
  rw [show Try.prog.cellsOf 29 = 1 by kernel_rfl] at e0
  rw [show Try.prog.cellsOf 39 = 1 by kernel_rfl] at e1
  simp only [List.drop_zero, List.drop_succ_cons, List.take_succ_cons, List.take_zero, List.cons.injEq, and_true] at e0 e1
  subst e0 e1
  exact ⟨⟨s0, s1⟩, ⟨(nat_u64 w1).1, (nat_u64 w1).2, (nat_u32 w0).1, (nat_u32 w0).2⟩, rfl⟩
set_option maxRecDepth 100000 in
theorem sib_elem (n : Nat) (cs' : List Value) (z : DataW H × List MemPlace) (h : DataW.trod enc Try.prog w base spare held n 67 cs' = some z) : ∃ x : Sib, (0 ≤ x.d.n ∧ x.d.n ≤ 18446744073709551615 ∧ 0 ≤ x.d.a ∧ x.d.a ≤ 4294967295) ∧ cs' = sibK.enc x := by
 obtain ⟨xs, n', _, _, hl, hxl, hf⟩ := DataW.trod_struct Try.underlying67 h
 rw [show Try.prog.cellsOf 67 = 4 by kernel_rfl] at hl
 match cs', hl with
 | [c0, c1, c2, c3], _ =>
  have h0 := hf 0 _ rfl
  have h1 := hf 1 _ rfl
  have h2 := hf 2 _ rfl
  have hx : ∀ i, i < 3 → ∃ y, xs[i]? = some y := fun i hi => ⟨xs[i]'(by rw [hxl]; exact hi), List.getElem?_eq_getElem _⟩
  obtain ⟨y0, hy0⟩ := hx 0 (by omega)
  obtain ⟨y1, hy1⟩ := hx 1 (by omega)
  obtain ⟨y2, hy2⟩ := hx 2 (by omega)
  rw [hy0] at h0
  rw [hy1] at h1
  rw [hy2] at h2
  obtain ⟨s1, e1, _⟩ := DataW.trod_bool Try.underlying4 h1
  obtain ⟨s2, e2, _⟩ := DataW.trod_string Try.underlying9 h2
  obtain ⟨x, hx0, e0⟩ := dot_elem _ _ _ h0
  change List.take (Try.prog.cellsOf 41) (List.drop 0 [c0, c1, c2, c3]) = _ at e0
  change List.take (Try.prog.cellsOf 4) (List.drop 2 [c0, c1, c2, c3]) = _ at e1
  change List.take (Try.prog.cellsOf 9) (List.drop 3 [c0, c1, c2, c3]) = _ at e2
  rw [show Try.prog.cellsOf 41 = 2 by kernel_rfl] at e0
  rw [show Try.prog.cellsOf 4 = 1 by kernel_rfl] at e1
  rw [show Try.prog.cellsOf 9 = 1 by kernel_rfl] at e2
  simp only [dotK, List.drop_zero, List.drop_succ_cons, List.take_succ_cons, List.take_zero, List.cons.injEq, and_true] at e0 e1 e2
  obtain ⟨rfl, rfl⟩ := e0
  subst e1 e2
  exact ⟨⟨x, s1, s2⟩, hx0, rfl⟩
/-- A datum's own weights, where all are bounded. -/
theorem weights_of {ts : List TypeId} {ds : List (DataW H)} (h : (DataW.weightsEach Try.prog ts ds).all (· ≤ reachBytes) = true) {j : Nat} {t : TypeId} {d : DataW H} (ht : ts[j]? = some t) (hd : ds[j]? = some d) : ∀ n ∈ d.weights Try.prog t, n ≤ reachBytes := fun n hn => by
 have := List.all_eq_true.1 h _ (DataW.weights_mem_each ht hd n hn)
 simpa using this
end
end Go.Proofs.Ytljfigikkajlnaa
