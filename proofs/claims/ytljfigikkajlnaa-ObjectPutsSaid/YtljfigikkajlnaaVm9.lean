/- DERIVED. Which content of a dot is the later one: both texts. A state that came in, opened: its dots, its siblings, their bulk. -/
import Derived.Test.YtljfigikkajlnaaVm3
import Derived.Test.YtljfigikkajlnaaVDvJoinP
import Derived.Test.YtljfigikkajlnaaVm11
import Derived.Laws.Runes
import Derived.Deep.Slices
import Derived.Deep.Fields
import Derived.ChangeSame
import Derived.SizedLaws
import Derived.WideShapes
import Derived.ProofKit
import Derived.Lib.SmallJoins
namespace Go.Proofs.Ytljfigikkajlnaa
open Go.RowKit
set_option linter.unusedVariables false
set_option linter.unusedSimpArgs false
def sibV (z : Sib) : Value := .agg #[.int .u32 z.d.a, .int .u64 z.d.n, .bool z.gone, .string z.v]
theorem les_eq {x y : Sib} (h : x.gone = y.gone) : lesB x y = ltK x.v y.v := by unfold lesB; rw [if_pos h]
theorem les_ne {x y : Sib} (h : x.gone ≠ y.gone) : lesB x y = x.gone := by unfold lesB; rw [if_neg h]
theorem les_yes {x y : Sib} (h : lesB y x = true) : lesS x y = y := by unfold lesS; rw [if_pos h]
theorem les_no {x y : Sib} (h : lesB y x = false) : lesS x y = x := by unfold lesS; rw [if_neg (by rw [h]; simp)]
set_option maxHeartbeats 1600000 in
theorem refLes_any (x y : Sib) (w : World) : Calls Try.prog 72 #[sibV x, sibV y] w fun e w' => e = .returned (.bool (lesB x y)) ∧ Below w.heap.size w w' := by
  unfold sibV
  by_cases h : x.gone = y.gone
  · have HV := Lib.hid (les_eq h)
    have HB := Lib.hid (bytes_ltK x.v y.v)
    have q0 : (x.gone != y.gone) = false := by simp [h]
    have q1 : (x.gone == y.gone) = true := by simp [h]
    clear h
    go_enter Try.func72, Try.ntmps72
    go_wp2
    go_ret
    exact ⟨ret_bool (by rw [HV.out, HB.out]), (by repeat (first | exact Below.refl _ _ | refine bl_drewN ?_ _ | refine bl_drew ?_ | refine bl_alloc ?_ _))⟩
  · have HV := Lib.hid (les_ne h)
    have q0 : (x.gone != y.gone) = true := by simp [h]
    have q1 : (x.gone == y.gone) = false := by simp [h]
    clear h
    go_enter Try.func72, Try.ntmps72
    go_wp2
    go_ret
    exact ⟨ret_bool HV.out.symm, (by repeat (first | exact Below.refl _ _ | refine bl_drewN ?_ _ | refine bl_drew ?_ | refine bl_alloc ?_ _))⟩
set_option maxHeartbeats 3200000 in
theorem lesser_any (x y : Sib) (w : World) : Calls Try.prog 77 #[sibV x, sibV y] w fun e w' => e = .returned (sibV (lesS x y)) ∧ Below w.heap.size w w' := by
  unfold sibV
  obtain ⟨xd, xg, xv⟩ := x
  obtain ⟨yd, yg, yv⟩ := y
  have HB := Lib.hid (bytes_ltK yv xv)
  cases xg <;> cases yg
  · cases hb : ltK yv xv with
    | true =>
      have HV := Lib.hid (les_yes (x := ⟨xd, false, xv⟩) (y := ⟨yd, false, yv⟩) (by rw [les_eq (by rfl)]; exact hb))
      have t0 : Op.bytesLess yv.toList xv.toList = true := by rw [HB.out, hb]
      clear hb
      go_enter Try.func77, Try.ntmps77
      go_wp2
      exact bodyPost_ret (v := .agg #[.int .u32 yd.a, .int .u64 yd.n, .bool false, .string yv]) (by simp [results, Try.results77, go_sem]) rfl ⟨by rw [HV.out], by repeat (first | exact Below.refl _ _ | refine bl_drewN ?_ _ | refine bl_drew ?_ | refine bl_alloc ?_ _ | refine Below.setCell ?_ (by simp) _)⟩
    | false =>
      have HV := Lib.hid (les_no (x := ⟨xd, false, xv⟩) (y := ⟨yd, false, yv⟩) (by rw [les_eq (by rfl)]; exact hb))
      have t0 : Op.bytesLess yv.toList xv.toList = false := by rw [HB.out, hb]
      clear hb
      go_enter Try.func77, Try.ntmps77
      go_wp2
      exact bodyPost_ret (v := .agg #[.int .u32 xd.a, .int .u64 xd.n, .bool false, .string xv]) (by simp [results, Try.results77, go_sem]) rfl ⟨by rw [HV.out], by repeat (first | exact Below.refl _ _ | refine bl_drewN ?_ _ | refine bl_drew ?_ | refine bl_alloc ?_ _ | refine Below.setCell ?_ (by simp) _)⟩
  · have HV := Lib.hid (les_yes (x := ⟨xd, false, xv⟩) (y := ⟨yd, true, yv⟩) (by rw [les_ne (by simp)]))
    go_enter Try.func77, Try.ntmps77
    go_wp2
    exact bodyPost_ret (v := .agg #[.int .u32 yd.a, .int .u64 yd.n, .bool true, .string yv]) (by simp [results, Try.results77, go_sem]) rfl ⟨by rw [HV.out], by repeat (first | exact Below.refl _ _ | refine bl_drewN ?_ _ | refine bl_drew ?_ | refine bl_alloc ?_ _ | refine Below.setCell ?_ (by simp) _)⟩
  · have HV := Lib.hid (les_no (x := ⟨xd, true, xv⟩) (y := ⟨yd, false, yv⟩) (by rw [les_ne (by simp)]))
    go_enter Try.func77, Try.ntmps77
    go_wp2
    exact bodyPost_ret (v := .agg #[.int .u32 xd.a, .int .u64 xd.n, .bool true, .string xv]) (by simp [results, Try.results77, go_sem]) rfl ⟨by rw [HV.out], by repeat (first | exact Below.refl _ _ | refine bl_drewN ?_ _ | refine bl_drew ?_ | refine bl_alloc ?_ _ | refine Below.setCell ?_ (by simp) _)⟩
  · cases hb : ltK yv xv with
    | true =>
      have HV := Lib.hid (les_yes (x := ⟨xd, true, xv⟩) (y := ⟨yd, true, yv⟩) (by rw [les_eq (by rfl)]; exact hb))
      have t0 : Op.bytesLess yv.toList xv.toList = true := by rw [HB.out, hb]
      clear hb
      go_enter Try.func77, Try.ntmps77
      go_wp2
      exact bodyPost_ret (v := .agg #[.int .u32 yd.a, .int .u64 yd.n, .bool true, .string yv]) (by simp [results, Try.results77, go_sem]) rfl ⟨by rw [HV.out], by repeat (first | exact Below.refl _ _ | refine bl_drewN ?_ _ | refine bl_drew ?_ | refine bl_alloc ?_ _ | refine Below.setCell ?_ (by simp) _)⟩
    | false =>
      have HV := Lib.hid (les_no (x := ⟨xd, true, xv⟩) (y := ⟨yd, true, yv⟩) (by rw [les_eq (by rfl)]; exact hb))
      have t0 : Op.bytesLess yv.toList xv.toList = false := by rw [HB.out, hb]
      clear hb
      go_enter Try.func77, Try.ntmps77
      go_wp2
      exact bodyPost_ret (v := .agg #[.int .u32 xd.a, .int .u64 xd.n, .bool true, .string xv]) (by simp [results, Try.results77, go_sem]) rfl ⟨by rw [HV.out], by repeat (first | exact Below.refl _ _ | refine bl_drewN ?_ _ | refine bl_drew ?_ | refine bl_alloc ?_ _ | refine Below.setCell ?_ (by simp) _)⟩
end Go.Proofs.Ytljfigikkajlnaa
namespace Go.Proofs.Ytljfigikkajlnaa
open Go.RowKit Go.ChangeShapes Go.WideShapes Go.Deep
set_option linter.unusedVariables false
set_option linter.unusedSimpArgs false
theorem rows_of {α : Type} {K : GR.Kind α} {w : World} {a : Addr} {P : α → Prop} (len : Nat) (hb : len * K.b ≤ 140737488355328) (h : ∀ i, i < len → ∃ x : α, P x ∧ ∀ j u, (K.enc x)[j]? = some u → w.cell? (a.add (i * K.s + j)) = some u) :
    ∃ l : List α, l.length = len ∧ GR.Rd K w (some a) l ∧ ∀ x ∈ l, P x := by
  have hall : ∀ n, n ≤ len → ∃ l : List α, l.length = n ∧ (∀ i x, l[i]? = some x → P x ∧ ∀ j u, (K.enc x)[j]? = some u → w.cell? (a.add (i * K.s + j)) = some u) := by
    intro n
    induction n with
    | zero => exact fun _ => ⟨[], rfl, fun i e he => by simp at he⟩
    | succ n ih =>
      intro hn
      obtain ⟨l, hl1, hl2⟩ := ih (by omega)
      obtain ⟨e, he⟩ := h n (by omega)
      refine ⟨l ++ [e], by simp [hl1], fun i x hx => ?_⟩
      rcases Nat.lt_or_ge i l.length with h1 | h1
      · rw [List.getElem?_append_left h1] at hx
        exact hl2 i x hx
      · rw [List.getElem?_append_right h1] at hx
        have h0 : i - l.length = 0 := by
          rcases Nat.eq_zero_or_pos (i - l.length) with h | h
          · exact h
          · rw [List.getElem?_eq_none (by simp; omega)] at hx; cases hx
        rw [h0] at hx
        cases hx
        obtain rfl : i = n := by omega
        exact he
  obtain ⟨l, hl, hc⟩ := hall len (Nat.le_refl _)
  subst hl
  have hcell : ∀ k u, (GR.cs K l)[k]? = some u → w.cell? (a.add k) = some u := by
    intro k u hu
    obtain ⟨i, j, x, hx, _, rfl, hu2⟩ := GR.cs_of l k u hu
    exact (hc i x hx).2 j u hu2
  refine ⟨l, rfl, ⟨hb, GR.cs_length _, fun hn => ⟨a, rfl, ?_, hcell⟩⟩, fun x hx => ?_⟩
  · have h0 : 0 < (GR.cs K l).length := by rw [GR.cs_length]; exact Nat.mul_pos hn K.hs
    have := World.block_lt_of_cell? w _ (hcell 0 _ (List.getElem?_eq_getElem h0))
    simpa [Addr.add] using this
  · obtain ⟨i, hi⟩ := List.getElem?_of_mem hx
    exact (hc i x hi).1
section
variable {H : Type} {enc : TypeId × Value → H} {w : World} {base : Nat} {spare : Nat → Bool} {held : Bool}
/-- A slice of any kind of elements. -/
theorem open_row {α : Type} {K : GR.Kind α} {P : α → Prop} {t : TypeId} {fuel : Nat} {v : Value} {y : DataW H × List MemPlace} (ht : Try.prog.underlying t = some (.slice K.e)) (hC : Try.prog.cellsOf K.e = K.s) (hb : Try.prog.bytesOf K.e = K.b)
    (h : DataW.trod enc Try.prog w base spare held fuel t [v] = some y) (hz : ∀ n ∈ y.1.weights Try.prog t, n ≤ reachBytes)
    (he : ∀ n cs' z, DataW.trod enc Try.prog w base spare held n K.e cs' = some z → ∃ x, P x ∧ cs' = K.enc x) :
    ∃ (A : Option Addr) (c : Nat) (l : List α), v = .slice A l.length c ∧ l.length ≤ c ∧ GR.Rd K w A l ∧ l.length * K.b ≤ 140737488351232 ∧ (∀ x ∈ l, P x) ∧ (A = none → l = [] ∧ c = 0) := by
  have hre : reachBytes = 140737488351232 := by decide
  rcases open_slice ht h with ⟨hcs, _⟩ | ⟨a, len, cap, m, n, D, Pl, hcs, _, hl, hm, hmm, hx, hi⟩
  · simp only [List.cons.injEq, and_true] at hcs
    subst hcs
    exact ⟨none, 0, [], rfl, Nat.le_refl _, GR.Rd.nil _ _ _, by simp, (fun x hx => by cases hx), fun _ => ⟨rfl, rfl⟩⟩
  · simp only [List.cons.injEq, and_true] at hcs
    subst hcs
    subst hx
    have hlm : len ≤ m := by rw [hmm]; split <;> omega
    have z := hz ((len + (m - len)) * K.b) (by simp [DataW.weights, ht, hb])
    rw [hre] at z
    have hlen : len * K.b ≤ 140737488351232 := Nat.le_trans (Nat.mul_le_mul_right _ (by omega)) z
    obtain ⟨l, rfl, hr, hp⟩ := rows_of (K := K) (w := w) (a := a) (P := P) len (by omega) (fun i hil => by
      obtain ⟨cs', hc, ht'⟩ := hi i (by omega)
      obtain ⟨x, hx, rfl⟩ := he _ _ _ ht'
      obtain ⟨_, hcl, hat⟩ := World.cells?_some hc
      refine ⟨x, hx, fun j u hu => ?_⟩
      have hj : j < K.s := by have := (List.getElem?_eq_some_iff.1 hu).1; rw [K.len] at this; exact this
      have := hat j (by rw [hC]; exact hj)
      rw [hC] at this
      rw [← Go.Deep.add_add, this, hu])
    exact ⟨some a, cap, l, rfl, hl, hr, hlen, hp, fun h => by cases h⟩
theorem nat_u64 {n : Int} (h : (Lit.int .u64 n).wf = true) : 0 ≤ n ∧ n ≤ 18446744073709551615 := by
  have := Go.bounds_u64 h
  omega
theorem nat_u32 {n : Int} (h : (Lit.int .u32 n).wf = true) : 0 ≤ n ∧ n ≤ 4294967295 := by
  have := Go.bounds_u32 h
  omega
set_option maxRecDepth 100000 in
theorem dot_elem (n : Nat) (cs' : List Value) (z : DataW H × List MemPlace) (h : DataW.trod enc Try.prog w base spare held n 41 cs' = some z) : ∃ x : Dot, (0 ≤ x.n ∧ x.n ≤ 18446744073709551615 ∧ 0 ≤ x.a ∧ x.a ≤ 4294967295) ∧ cs' = dotK.enc x := by
  obtain ⟨xs, n', _, _, hl, hxl, hf⟩ := DataW.trod_struct Try.underlying41 h
  rw [show Try.prog.cellsOf 41 = 2 by kernel_rfl] at hl
  match cs', hl with
  | [c0, c1], _ =>
    have h0 := hf 0 _ rfl
    have h1 := hf 1 _ rfl
    have hx : ∀ i, i < 2 → ∃ y, xs[i]? = some y := fun i hi => ⟨xs[i]'(by rw [hxl]; exact hi), List.getElem?_eq_getElem _⟩
    obtain ⟨y0, hy0⟩ := hx 0 (by omega)
    obtain ⟨y1, hy1⟩ := hx 1 (by omega)
    rw [hy0] at h0
    rw [hy1] at h1
    obtain ⟨s0, e0, _, w0⟩ := DataW.trod_int Try.underlying29 h0
    obtain ⟨s1, e1, _, w1⟩ := DataW.trod_int Try.underlying39 h1
    change List.take (Try.prog.cellsOf 29) (List.drop 0 [c0, c1]) = _ at e0
    change List.take (Try.prog.cellsOf 39) (List.drop 1 [c0, c1]) = _ at e1
    rw [show Try.prog.cellsOf 29 = 1 by kernel_rfl] at e0
    rw [show Try.prog.cellsOf 39 = 1 by kernel_rfl] at e1
    simp only [List.drop_zero, List.drop_succ_cons, List.take_succ_cons, List.take_zero, List.cons.injEq, and_true] at e0 e1
    subst e0 e1
    exact ⟨⟨s0, s1⟩, ⟨(nat_u64 w1).1, (nat_u64 w1).2, (nat_u32 w0).1, (nat_u32 w0).2⟩, rfl⟩
/-- A datum's own weights, where all are bounded. -/
theorem weights_of {ts : List TypeId} {ds : List (DataW H)} (h : (DataW.weightsEach Try.prog ts ds).all (· ≤ reachBytes) = true) {j : Nat} {t : TypeId} {d : DataW H} (ht : ts[j]? = some t) (hd : ds[j]? = some d) : ∀ n ∈ d.weights Try.prog t, n ≤ reachBytes := fun n hn => by
  have := List.all_eq_true.1 h _ (DataW.weights_mem_each ht hd n hn)
  simpa using this
end
end Go.Proofs.Ytljfigikkajlnaa
