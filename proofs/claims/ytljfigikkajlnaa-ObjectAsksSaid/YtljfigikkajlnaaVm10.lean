/- DERIVED. The program's Form of an object. A state that came in, opened: its dots, its siblings, their bulk. -/
import Derived.Test.YtljfigikkajlnaaVDvCmp
import Derived.Test.YtljfigikkajlnaaVObPrg
import Derived.Deep.Slices
import Derived.Deep.Fields
import Derived.ChangeSame
import Derived.SizedLaws
import Derived.WideShapes
import Derived.ProofKit
import Derived.Lib.SmallJoins
namespace Go.Proofs.Ytljfigikkajlnaa
open Go.RowKit Go.Lib
set_option linter.unusedVariables false
set_option linter.unusedSimpArgs false
def formB (key : ByteArray) (a : List Dot) (l : List Sib) : ByteArray := if chkE key a l = 0 ∧ a.length ≠ 0 then ⟨([79] ++ textU key ++ encS a l).toArray⟩ else ⟨#[]⟩
set_option maxRecDepth 100000 in
set_option maxHeartbeats 6400000 in
theorem form1_any (o g : Nat) (key : ByteArray) (A C : Option Addr) (n c m d : Nat) (a : List Dot) (l : List Sib) (W : World) (hn : n = a.length) (hc : chkE key a l = 0)
    (bo : GR.Blk W o 27 #[.string key, .slice A n c, .slice C m d]) (bg : GR.Blk W g 9 #[.string ⟨#[]⟩]) :
    Calls Try.prog 63 #[.string ⟨(encS a l).toArray⟩, .pointer (some ⟨o, 0, none⟩), .pointer (some ⟨g, 0, none⟩)] W fun e w' => ∃ x, e = .returned (.int .i64 x) ∧ x = 0 ∧ GR.Blk w' g 9 #[.string (formB key a l)] ∧ Chg (fun k => k = g) W w' := by
  obtain ⟨k1, k2, k3⟩ := chk_cases hc
  have ksz := Lib.hid ((keyB_iff key).1 k1)
  have ul := Lib.hid (uintU_len10 (show key.size < 18446744073709551616 by have := ((keyB_iff key).1 k1).2; omega))
  have HNN := Lib.hid hn
  have HC := Lib.hid hc
  have o0 : W.cell? ⟨o, 0, none⟩ = some (.string key) := bo.cell 0
  have o1 : W.cell? ⟨o, 1, none⟩ = some (.slice A n c) := bo.cell 1
  have o2 : W.cell? ⟨o, 2, none⟩ = some (.slice C m d) := bo.cell 2
  have BO := Lib.hid bo
  have BG := Lib.hid bg
  have htl : (⟨(encS a l).toArray⟩ : ByteArray).data.toList = encS a l := by simp
  obtain ⟨t, ht⟩ : ∃ t : ByteArray, t = ⟨(encS a l).toArray⟩ := ⟨_, rfl⟩
  rw [← ht] at htl ⊢
  have HTL := Lib.hid htl
  have hts : t.size ≤ 280 := by
    have h8 : t.size = t.data.toList.length := rfl
    rw [h8, htl]; exact k3
  clear k1 k2 k3 hn hc bo bg ht htl
  go_enter Try.func63, Try.ntmps63
  go_wp2_with fail
  refine (absent_any A C n c m d _).mono ?_
  rintro e w1 ⟨rfl, hb⟩
  have B1 := Lib.hid hb
  have O1 := Lib.hid (BO.out.below hb BO.out.lt)
  have G1 := Lib.hid (BG.out.below hb BG.out.lt)
  clear hb o0 o1 o2
  by_cases h0 : n = 0
  · have HD := Lib.hid (show formB key a l = ⟨#[]⟩ by rw [formB, if_neg (by rintro ⟨_, h⟩; exact h (by rw [← HNN.out]; exact h0))])
    rw [decide_eq_true h0]
    clear h0
    go_wp2
    go_ret
    exact ⟨0, rfl, rfl, by rw [HD.out]; exact G1.out, chg_bl B1.out⟩
  · have HD := Lib.hid (show formB key a l = ⟨([79] ++ textU key ++ t.data.toList).toArray⟩ by rw [formB, if_pos ⟨HC.out, by rw [← HNN.out]; exact h0⟩, HTL.out])
    rw [decide_eq_false h0]
    clear h0
    go_wp2_with fail
    refine (newWriter_any _).mono ?_
    rintro e w3 ⟨rfl, hw3, hb⟩
    have W3 := Lib.hid hw3
    have B3 := Lib.hid hb
    clear hw3 hb
    go_wp2_with fail
    refine (byte_any w1.heap.size w1.heap.size _ 79 79 _ W3.out rfl (by simp)).mono ?_
    rintro e w4 ⟨rfl, hw4, hb⟩
    have W4 := Lib.hid hw4
    have B4 := Lib.hid (B3.out.trans hb)
    have O4 := Lib.hid (O1.out.below B4.out O1.out.lt)
    clear hw4 hb
    have o0 : w4.cell? ⟨o, 0, none⟩ = some (.string key) := O4.out.cell 0
    go_wp2_with fail
    clear o0
    refine (wtext_any w1.heap.size w1.heap.size _ key _ W4.out (by have := ksz.out.2; simp; omega)).mono ?_
    rintro e w5 ⟨rfl, hw5, hb, _⟩
    have W5 := Lib.hid hw5
    have B5 := Lib.hid (B4.out.trans hb)
    clear hw5 hb
    go_wp2_with fail
    refine (raw_any w1.heap.size w1.heap.size _ t _ W5.out (by
      have h1 := ksz.out.2
      have h2 := ul.out
      have h3 : key.data.toList.length = key.size := rfl
      simp only [textU, List.length_append, List.length_singleton, List.nil_append, h3]
      omega)).mono ?_
    rintro e w6 ⟨rfl, hw6, hb, _⟩
    have W6 := Lib.hid hw6
    have B6 := Lib.hid (B5.out.trans hb)
    clear hw6 hb
    go_wp2_with fail
    refine (told_any w1.heap.size w1.heap.size _ _ W6.out).mono ?_
    rintro e w7 ⟨rfl, rfl⟩
    have G6 := Lib.hid (G1.out.below B6.out G1.out.lt)
    have g0 : w6.cell? ⟨g, 0, none⟩ = some (.string ⟨#[]⟩) := G6.out.cell 0
    have f0 := G6.out.frozen 0
    go_wp2
    go_ret
    exact ⟨0, rfl, rfl, by rw [HD.out]; exact G6.out.set_ 0 _, (chg_bl (bl_then B1.out B6.out)).then (chg_set (S := fun k => k = g) 0 _ (.inl rfl))⟩
set_option maxRecDepth 100000 in
set_option maxHeartbeats 6400000 in
theorem form_any (key : ByteArray) (A C : Option Addr) (n c m d : Nat) (a : List Dot) (l : List Sib) (w : World) (ha : GR.Rd dotK w A a) (hl : GR.Rd sibK w C l) (hn : n = a.length) (hm : m = l.length) (hr : StR a l) :
    Calls Try.prog 30 #[.agg #[.string key, .slice A n c, .slice C m d]] w fun e w' => e = .returned (.tuple #[.string (formB key a l), .int .i64 (chkE key a l)]) ∧ Below w.heap.size w w' := by
  obtain ⟨X, hX⟩ : ∃ X, chkE key a l = X := ⟨_, rfl⟩
  obtain ⟨q, hq⟩ : ∃ q, formB key a l = q := ⟨_, rfl⟩
  rw [hX, hq]
  have HA := Lib.hid ha
  have HL := Lib.hid hl
  have HR := Lib.hid hr
  have HN := Lib.hid hn
  have HM := Lib.hid hm
  have HXX := Lib.hid hX
  have HQQ := Lib.hid hq
  clear ha hl hr hn hm hX hq
  go_enter Try.func30, Try.ntmps30
  go_wp2_with fail
  obtain ⟨W1, hW1⟩ : ∃ W1 : World, W1 = (w.alloc (.cells #[.string key, .slice A n c, .slice C m d] 27)).alloc (.cells #[.string ⟨#[]⟩] 9) := ⟨_, rfl⟩
  rw [← hW1]
  have LW : Hid (Below w.heap.size w W1) := Lib.hid (by rw [hW1]; exact (by repeat (first | exact Below.refl _ _ | refine bl_drewN ?_ _ | refine bl_drew ?_ | refine bl_alloc ?_ _)))
  have XO : Hid (GR.Blk W1 w.heap.size 27 #[.string key, .slice A n c, .slice C m d]) := Lib.hid (by rw [hW1]; exact (GR.Blk.new _ _ _).alloc _)
  have XC : Hid (GR.Blk W1 (w.heap.size + 1) 9 #[.string ⟨#[]⟩]) := Lib.hid (by rw [hW1]; exact new_at _ _ _ (by simp))
  clear hW1
  by_cases h1 : X = 0
  · have HX : Hid (chkE key a l = 0) := Lib.hid (by rw [HXX.out]; exact h1)
    subst h1
    refine (with_yes_form _ _ (fun x w' => x = 0 ∧ GR.Blk w' (w.heap.size + 1) 9 #[.string q] ∧ Chg (fun k => k = w.heap.size + 1) W1 w') key A C n c m d a l _ (HA.out.below LW.out) (HL.out.below LW.out) HN.out HM.out HR.out HX.out (fun W hb => ?_)).mono ?_
    · refine (form1_any w.heap.size (w.heap.size + 1) key A C n c m d a l W HN.out HX.out (XO.out.below hb XO.out.lt) (XC.out.below hb XC.out.lt)).mono ?_
      rintro e w' ⟨x, he, hx, hg, hc⟩
      rw [HQQ.out] at hg
      exact ⟨x, he, hx, hg, (chg_bl hb).then hc⟩
    · rintro e w2 ⟨x, rfl, rfl, hg, hc⟩
      have B2 := Lib.hid (LW.out.trans (hc.below LW.out.size (fun k e => by subst e; omega)))
      have g0 : w2.cell? ⟨w.heap.size + 1, 0, none⟩ = some (.string q) := hg.cell 0
      clear hg hc
      go_wp2
      go_ret2
      exact ⟨rfl, B2.out⟩
  · have hne : chkE key a l ≠ 0 := by rw [HXX.out]; exact h1
    have HQ0 : Hid (q = ⟨#[]⟩) := Lib.hid (by rw [← HQQ.out, formB, if_neg (fun h => hne h.1)])
    refine (with_no_form _ _ key A C n c m d a l _ (HA.out.below LW.out) (HL.out.below LW.out) HN.out HM.out HR.out hne).mono ?_
    rintro e w2 ⟨rfl, hb⟩
    rw [HXX.out]
    have G2 := Lib.hid (XC.out.below hb XC.out.lt)
    have B2 := Lib.hid (bl_then LW.out hb)
    clear hb h1 hne
    have g0 : w2.cell? ⟨w.heap.size + 1, 0, none⟩ = some (.string ⟨#[]⟩) := G2.out.cell 0
    go_wp2
    go_ret2
    exact ⟨by rw [HQ0.out]; rfl, B2.out⟩
end Go.Proofs.Ytljfigikkajlnaa
namespace Go.Proofs.Ytljfigikkajlnaa
open Go.RowKit Go.ChangeShapes Go.WideShapes Go.Deep
set_option linter.unusedVariables false
set_option linter.unusedSimpArgs false
theorem rows_of {α : Type} {K : GR.Kind α} {w : World} {a : Addr} {P : α → Prop} (len : Nat) (hb : len * K.b ≤ 140737488355328) (h : ∀ i, i < len → ∃ x : α, P x ∧ ∀ j u, (K.enc x)[j]? = some u → w.cell? (a.add (i * K.s + j)) = some u) :
    ∃ l : List α, l.length = len ∧ GR.Rd K w (some a) l ∧ ∀ x ∈ l, P x := by
  have hall : ∀ n, n ≤ len → ∃ l : List α, l.length = n ∧ (∀ i x, l[i]? = some x → P x ∧ ∀ j u, (K.enc x)[j]? = some u → w.cell? (a.add (i * K.s + j)) = some u) := by
    intro n
    induction n with
    | zero => exact fun _ => ⟨[], rfl, fun i e he => by simp at he⟩
    | succ n ih =>
      intro hn
      obtain ⟨l, hl1, hl2⟩ := ih (by omega)
      obtain ⟨e, he⟩ := h n (by omega)
      refine ⟨l ++ [e], by simp [hl1], fun i x hx => ?_⟩
      rcases Nat.lt_or_ge i l.length with h1 | h1
      · rw [List.getElem?_append_left h1] at hx
        exact hl2 i x hx
      · rw [List.getElem?_append_right h1] at hx
        have h0 : i - l.length = 0 := by
          rcases Nat.eq_zero_or_pos (i - l.length) with h | h
          · exact h
          · rw [List.getElem?_eq_none (by simp; omega)] at hx; cases hx
        rw [h0] at hx
        cases hx
        obtain rfl : i = n := by omega
        exact he
  obtain ⟨l, hl, hc⟩ := hall len (Nat.le_refl _)
  subst hl
  have hcell : ∀ k u, (GR.cs K l)[k]? = some u → w.cell? (a.add k) = some u := by
    intro k u hu
    obtain ⟨i, j, x, hx, _, rfl, hu2⟩ := GR.cs_of l k u hu
    exact (hc i x hx).2 j u hu2
  refine ⟨l, rfl, ⟨hb, GR.cs_length _, fun hn => ⟨a, rfl, ?_, hcell⟩⟩, fun x hx => ?_⟩
  · have h0 : 0 < (GR.cs K l).length := by rw [GR.cs_length]; exact Nat.mul_pos hn K.hs
    have := World.block_lt_of_cell? w _ (hcell 0 _ (List.getElem?_eq_getElem h0))
    simpa [Addr.add] using this
  · obtain ⟨i, hi⟩ := List.getElem?_of_mem hx
    exact (hc i x hi).1
section
variable {H : Type} {enc : TypeId × Value → H} {w : World} {base : Nat} {spare : Nat → Bool} {held : Bool}
/-- A slice of any kind of elements. -/
theorem open_row {α : Type} {K : GR.Kind α} {P : α → Prop} {t : TypeId} {fuel : Nat} {v : Value} {y : DataW H × List MemPlace} (ht : Try.prog.underlying t = some (.slice K.e)) (hC : Try.prog.cellsOf K.e = K.s) (hb : Try.prog.bytesOf K.e = K.b)
    (h : DataW.trod enc Try.prog w base spare held fuel t [v] = some y) (hz : ∀ n ∈ y.1.weights Try.prog t, n ≤ reachBytes)
    (he : ∀ n cs' z, DataW.trod enc Try.prog w base spare held n K.e cs' = some z → ∃ x, P x ∧ cs' = K.enc x) :
    ∃ (A : Option Addr) (c : Nat) (l : List α), v = .slice A l.length c ∧ l.length ≤ c ∧ GR.Rd K w A l ∧ l.length * K.b ≤ 140737488351232 ∧ (∀ x ∈ l, P x) ∧ (A = none → l = [] ∧ c = 0) := by
  have hre : reachBytes = 140737488351232 := by decide
  rcases open_slice ht h with ⟨hcs, _⟩ | ⟨a, len, cap, m, n, D, Pl, hcs, _, hl, hm, hmm, hx, hi⟩
  · simp only [List.cons.injEq, and_true] at hcs
    subst hcs
    exact ⟨none, 0, [], rfl, Nat.le_refl _, GR.Rd.nil _ _ _, by simp, (fun x hx => by cases hx), fun _ => ⟨rfl, rfl⟩⟩
  · simp only [List.cons.injEq, and_true] at hcs
    subst hcs
    subst hx
    have hlm : len ≤ m := by rw [hmm]; split <;> omega
    have z := hz ((len + (m - len)) * K.b) (by simp [DataW.weights, ht, hb])
    rw [hre] at z
    have hlen : len * K.b ≤ 140737488351232 := Nat.le_trans (Nat.mul_le_mul_right _ (by omega)) z
    obtain ⟨l, rfl, hr, hp⟩ := rows_of (K := K) (w := w) (a := a) (P := P) len (by omega) (fun i hil => by
      obtain ⟨cs', hc, ht'⟩ := hi i (by omega)
      obtain ⟨x, hx, rfl⟩ := he _ _ _ ht'
      obtain ⟨_, hcl, hat⟩ := World.cells?_some hc
      refine ⟨x, hx, fun j u hu => ?_⟩
      have hj : j < K.s := by have := (List.getElem?_eq_some_iff.1 hu).1; rw [K.len] at this; exact this
      have := hat j (by rw [hC]; exact hj)
      rw [hC] at this
      rw [← Go.Deep.add_add, this, hu])
    exact ⟨some a, cap, l, rfl, hl, hr, hlen, hp, fun h => by cases h⟩
theorem nat_u64 {n : Int} (h : (Lit.int .u64 n).wf = true) : 0 ≤ n ∧ n ≤ 18446744073709551615 := by
  have := Go.bounds_u64 h
  omega
theorem nat_u32 {n : Int} (h : (Lit.int .u32 n).wf = true) : 0 ≤ n ∧ n ≤ 4294967295 := by
  have := Go.bounds_u32 h
  omega
set_option maxRecDepth 100000 in
theorem dot_elem (n : Nat) (cs' : List Value) (z : DataW H × List MemPlace) (h : DataW.trod enc Try.prog w base spare held n 41 cs' = some z) : ∃ x : Dot, (0 ≤ x.n ∧ x.n ≤ 18446744073709551615 ∧ 0 ≤ x.a ∧ x.a ≤ 4294967295) ∧ cs' = dotK.enc x := by
  obtain ⟨xs, n', _, _, hl, hxl, hf⟩ := DataW.trod_struct Try.underlying41 h
  rw [show Try.prog.cellsOf 41 = 2 by kernel_rfl] at hl
  match cs', hl with
  | [c0, c1], _ =>
    have h0 := hf 0 _ rfl
    have h1 := hf 1 _ rfl
    have hx : ∀ i, i < 2 → ∃ y, xs[i]? = some y := fun i hi => ⟨xs[i]'(by rw [hxl]; exact hi), List.getElem?_eq_getElem _⟩
    obtain ⟨y0, hy0⟩ := hx 0 (by omega)
    obtain ⟨y1, hy1⟩ := hx 1 (by omega)
    rw [hy0] at h0
    rw [hy1] at h1
    obtain ⟨s0, e0, _, w0⟩ := DataW.trod_int Try.underlying29 h0
    obtain ⟨s1, e1, _, w1⟩ := DataW.trod_int Try.underlying39 h1
    change List.take (Try.prog.cellsOf 29) (List.drop 0 [c0, c1]) = _ at e0
    change List.take (Try.prog.cellsOf 39) (List.drop 1 [c0, c1]) = _ at e1
    rw [show Try.prog.cellsOf 29 = 1 by kernel_rfl] at e0
    rw [show Try.prog.cellsOf 39 = 1 by kernel_rfl] at e1
    simp only [List.drop_zero, List.drop_succ_cons, List.take_succ_cons, List.take_zero, List.cons.injEq, and_true] at e0 e1
    subst e0 e1
    exact ⟨⟨s0, s1⟩, ⟨(nat_u64 w1).1, (nat_u64 w1).2, (nat_u32 w0).1, (nat_u32 w0).2⟩, rfl⟩
/-- A datum's own weights, where all are bounded. -/
theorem weights_of {ts : List TypeId} {ds : List (DataW H)} (h : (DataW.weightsEach Try.prog ts ds).all (· ≤ reachBytes) = true) {j : Nat} {t : TypeId} {d : DataW H} (ht : ts[j]? = some t) (hd : ds[j]? = some d) : ∀ n ∈ d.weights Try.prog t, n ≤ reachBytes := fun n hn => by
  have := List.all_eq_true.1 h _ (DataW.weights_mem_each ht hd n hn)
  simpa using this
end
end Go.Proofs.Ytljfigikkajlnaa
