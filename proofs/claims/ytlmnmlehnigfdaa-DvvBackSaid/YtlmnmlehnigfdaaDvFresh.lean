/- DERIVED. The statements' own helpers: fresh. -/
import Derived.Test.YtlmnmlehnigfdaaDvOver
import Derived.Test.YtlmnmlehnigfdaaDvSame
import Derived.Test.YtlmnmlehnigfdaaDvTwin
import Derived.Lib.Strings
namespace Go.Proofs.Ytlmnmlehnigfdaa
open Go.RowKit
set_option linter.unusedVariables false
set_option linter.unusedSimpArgs false

/-- A state's two slices, as they stand in a slice of states. -/
structure StV where
  A : Option Addr
  n : Nat
  c : Nat
  D : Option Addr
  m : Nat
  d : Nat
def StV.u (x : StV) : Value := .slice x.A x.n x.c
def StV.v (x : StV) : Value := .slice x.D x.m x.d
def stK : GR.Kind StV where
  e := 25
  s := 2
  b := 48
  enc := fun x => [.slice x.A x.n x.c, .slice x.D x.m x.d]
  len := fun _ => rfl
  one := fun x u hu => by
    simp only [List.mem_cons, List.not_mem_nil, or_false] at hu
    rcases hu with rfl | rfl <;> rfl
  hs := by omega
  hb := by omega
theorem st_info : (Try.prog.info? 25).map (fun i => (i.zero, i.size, i.bytes)) = some (some (.agg #[.slice none 0 0, .slice none 0 0]), 2, 48) := by kernel_rfl
/-- The rows of states. -/
def inRows (I : List StV) (k : Nat) : Prop := ∃ x ∈ I, rows2 x.u x.v k
/-- States in rows of the call's own, of counts that are no less than 0. -/
def InS (w : World) (B : Nat) (I : List StV) (C : Nat → List Dot × List Sib) : Prop :=
  ∀ i (h : i < I.length), OwnS w B I[i].u I[i].v (C i).1 (C i).2 ∧ (C i).1.length * 16 ≤ 140737488351232 ∧ (C i).2.length * 40 ≤ 140737488351232 ∧ (∀ d ∈ (C i).1, 0 ≤ d.n) ∧ (∀ x ∈ (C i).2, 0 ≤ x.d.n)
section
variable {w w' : World} {B B' : Nat} {I : List StV} {C : Nat → List Dot × List Sib}
theorem InS.below (h : InS w B I C) (hb : Below w.heap.size w w') : InS w' B I C := fun i hi => ⟨(h i hi).1.below hb, (h i hi).2⟩
theorem InS.ty (h : InS w B I C) {k : Nat} (hk : inRows I k) : ∃ cs e f, (e = 32 ∨ e = 56) ∧ w.heap[k]? = some (.cells cs e f) := by
  obtain ⟨x, hx, hk⟩ := hk
  obtain ⟨i, hi, rfl⟩ := List.getElem_of_mem hx
  have := (h i hi).1
  rcases hk with hk | hk
  · rcases this.d.2 with ⟨h0, _⟩ | ⟨g, cap, cur, h0, _, hh, _⟩
    · rw [h0] at hk; cases hk
    · rw [h0] at hk; cases hk; exact ⟨_, _, _, .inl rfl, hh⟩
  · rcases this.s.2 with ⟨h0, _⟩ | ⟨g, cap, cur, h0, _, hh, _⟩
    · rw [h0] at hk; cases hk
    · rw [h0] at hk; cases hk; exact ⟨_, _, _, .inr rfl, hh⟩
theorem InS.blk (h : InS w B I C) {g : Nat} {cs : Array Value} (bg : GR.Blk w g 25 cs) (hc : Chg (inRows I) w w') : GR.Blk w' g 25 cs :=
  blk_chg bg hc fun hr => by
    obtain ⟨cs', e, f, he, hh⟩ := h.ty hr
    unfold GR.Blk at bg
    rw [hh] at bg
    injection bg with bg
    injection bg with _ h2
    rcases he with rfl | rfl
    · exact absurd h2 (by decide)
    · exact absurd h2 (by decide)
theorem own_not {v : Value} {J : List StV} (h : GR.Own stK w B v J) {k : Nat} {cs : Array Value} {e : TypeId} {f : Nat × Nat} (he : e = 32 ∨ e = 56) (hh : w.heap[k]? = some (.cells cs e f)) : v.ownBlock ≠ some k := by
  intro hk
  rcases h.2 with ⟨rfl, _⟩ | ⟨g, cap, cur, rfl, _, h2, _⟩
  · cases hk
  · cases hk
    rw [hh] at h2
    injection h2 with h2
    injection h2 with _ h3
    rcases he with rfl | rfl
    · exact absurd h3 (by decide)
    · exact absurd h3 (by decide)
theorem InS.st {v : Value} {J : List StV} (h : InS w B I C) (k : GR.Own stK w B' v J) (hc : Chg (inRows I) w w') : GR.Own stK w' B' v J :=
  own_chg k hc fun i hi hr => by
    obtain ⟨cs', e, f, he, hh⟩ := h.ty hr
    exact own_not k he hh hi
theorem OwnS.st {u v x : Value} {a : List Dot} {l : List Sib} {J : List StV} (h : OwnS w B u v a l) (k : GR.Own stK w B' x J) (hc : Chg (rows2 u v) w w') : GR.Own stK w' B' x J :=
  own_chg k hc fun i hi hr => by
    rcases hr with hr | hr
    · exact own_ne k h.d (by decide) i hi hr
    · exact own_ne k h.s (by decide) i hi hr
theorem OwnS.grow {u v x : Value} {a : List Dot} {l : List Sib} {J : List StV} (h : OwnS w B u v a l) (k : GR.Own stK w B' x J) (hc : Chg (fun i => x.ownBlock = some i) w w') : OwnS w' B u v a l :=
  ⟨own_chg h.d hc fun i hi hr => own_ne h.d k (by decide) i hi hr, own_chg h.s hc fun i hi hr => own_ne h.s k (by decide) i hi hr⟩
theorem InS.grow {x : Value} {J : List StV} (h : InS w B I C) (k : GR.Own stK w B' x J) (hc : Chg (fun i => x.ownBlock = some i) w w') : InS w' B I C := fun i hi => ⟨(h i hi).1.grow k hc, (h i hi).2⟩
theorem OwnS.farI {u v : Value} {a : List Dot} {l : List Sib} (h : OwnS w B u v a l) (k : InS w B' I C) (ap : ∀ x ∈ I, ApS u v x.u x.v) (hc : Chg (inRows I) w w') : OwnS w' B u v a l :=
  ⟨own_chg h.d hc fun i hi ⟨x, hx, hr⟩ => by
    have hap := ap x hx
    obtain ⟨j, hj, rfl⟩ := List.getElem_of_mem hx
    rcases hr with hr | hr
    · exact hap.d i hi hr
    · exact own_ne h.d (k j hj).1.s (by decide) i hi hr,
   own_chg h.s hc fun i hi ⟨x, hx, hr⟩ => by
    have hap := ap x hx
    obtain ⟨j, hj, rfl⟩ := List.getElem_of_mem hx
    rcases hr with hr | hr
    · exact own_ne h.s (k j hj).1.d (by decide) i hi hr
    · exact hap.s i hi hr⟩
theorem InS.far {u v : Value} {a : List Dot} {l : List Sib} (h : InS w B I C) (k : OwnS w B' u v a l) (ap : ∀ x ∈ I, ApS u v x.u x.v) (hc : Chg (rows2 u v) w w') : InS w' B I C := fun i hi =>
  ⟨(h i hi).1.far k (ap _ (List.getElem_mem hi)).symm hc, (h i hi).2⟩
/-- One of the states is written over. -/
theorem InS.one (h : InS w B I C) (ap : ∀ i j (hi : i < I.length) (hj : j < I.length), i ≠ j → ApS I[i].u I[i].v I[j].u I[j].v) {k : Nat} (hk : k < I.length) {a : List Dot} {l : List Sib} (ho : OwnS w' B I[k].u I[k].v a l) (hc : Chg (rows2 I[k].u I[k].v) w w')
    (ha : a.length * 16 ≤ 140737488351232) (hl : l.length * 40 ≤ 140737488351232) (na : ∀ d ∈ a, 0 ≤ d.n) (nl : ∀ x ∈ l, 0 ≤ x.d.n) : InS w' B I (fun j => if j = k then (a, l) else C j) := fun i hi => by
  by_cases hik : i = k
  · subst hik
    simp only [if_true]
    exact ⟨ho, ha, hl, na, nl⟩
  · simp only [if_neg hik]
    exact ⟨(h i hi).1.far (h k hk).1 (ap i k hi hk hik) hc, (h i hi).2⟩
theorem ownS_n {x : StV} {a : List Dot} {l : List Sib} (h : OwnS w B x.u x.v a l) (ha : a.length * 16 ≤ 140737488351232) (hl : l.length * 40 ≤ 140737488351232) : x.n = a.length ∧ x.m = l.length ∧ a.length ≤ x.c ∧ l.length ≤ x.d ∧ GR.Rd dotK w x.A a ∧ GR.Rd sibK w x.D l := by
  have h1 := h.d.rd (show a.length * 16 ≤ 140737488355328 by omega)
  have h2 := h.s.rd (show l.length * 40 ≤ 140737488355328 by omega)
  exact ⟨h1.1, h2.1, by have := h1.2.1; omega, by have := h2.2.1; omega, h1.2.2, h2.2.2⟩
end

theorem same_self (A B C D : Option Addr) (c1 c2 c3 c4 n m n' m' : Nat) (a : List Dot) (l : List Sib) (w : World) (ha : GR.Rd dotK w A a) (hl : GR.Rd sibK w B l) (hb : GR.Rd dotK w C a) (hm : GR.Rd sibK w D l) (h1 : n = a.length) (h2 : m = l.length) (h3 : n' = a.length) (h4 : m' = l.length) :
    Calls Try.prog 15 #[.agg #[.slice A n c1, .slice B m c2], .agg #[.slice C n' c3, .slice D m' c4]] w fun e w' => e = .returned (.bool true) ∧ Below w.heap.size w w' := by
  subst h1 h2 h3 h4
  refine (refSame_any A B C D c1 c2 c3 c4 a a l l w ha hl hb hm).mono ?_
  rintro e w' ⟨rfl, hb⟩
  exact ⟨by simp [stEq], hb⟩
theorem twin_at (A B : Option Addr) (c d n m : Nat) (a : List Dot) (l : List Sib) (w : World) (ha : GR.Rd dotK w A a) (hl : GR.Rd sibK w B l) (h1 : n = a.length) (h2 : m = l.length) :
    Calls Try.prog 18 #[.agg #[.slice A n c, .slice B m d]] w fun e w' => ∃ v1 v2, e = .returned (.agg #[v1, v2]) ∧ OwnS w' w.heap.size v1 v2 a l ∧ Below w.heap.size w w' := by
  subst h1 h2
  refine (twin_any A B c d a l w ha hl).mono ?_
  rintro e w' ⟨v1, v2, rfl, h1, h2, h3⟩
  exact ⟨v1, v2, rfl, ⟨h1, h2⟩, h3⟩
/-- An element of a slice of states. -/
theorem st_at {w : World} {B : Nat} {v : Value} {J : List StV} (h : GR.Own stK w B v J) (n : Nat) (hn : J.length = n) (i : Nat) (hi : i < n) : ∃ g cap : Nat, v = .slice (some ⟨g, 0, none⟩) n cap ∧ w.cell? ⟨g, i * 2, none⟩ = some (.slice (J[i]'(by omega)).A (J[i]'(by omega)).n (J[i]'(by omega)).c) ∧ w.cell? ⟨g, i * 2 + 1, none⟩ = some (.slice (J[i]'(by omega)).D (J[i]'(by omega)).m (J[i]'(by omega)).d) := by
  obtain ⟨g, cap, rfl, _, _⟩ := own_lit h n hn (by omega)
  have hc := GR.Own.cells h i (by omega)
  exact ⟨g, cap, rfl, (hc 0 _ rfl).1, (hc 1 _ rfl).1⟩

/-- How things stand behind fresh's first loop. -/
structure FS (W1 : World) (B0 : Nat) (u1 v1 u2 v2 u3 v3 vin x : Value) (p : List Dot) (q : List Sib) (I J : List StV) (C : Nat → List Dot × List Sib) (w : World) : Prop where
  o2 : OwnS w B0 u2 v2 p q
  o3 : OwnS w B0 u3 v3 p q
  hI : InS w B0 I C
  hJ : ∀ j (h : j < J.length), OwnS w W1.heap.size J[j].u J[j].v (C j).1 (C j).2
  hin : GR.Own stK w B0 vin I
  hx : GR.Own stK w W1.heap.size x J
  ch : Chg (fun k => rows2 u1 v1 k ∨ inRows I k) W1 w
section
variable {W1 w w' : World} {B0 : Nat} {u1 v1 u2 v2 u3 v3 vin x : Value} {p : List Dot} {q : List Sib} {I J : List StV} {C : Nat → List Dot × List Sib}
theorem FS.below (h : FS W1 B0 u1 v1 u2 v2 u3 v3 vin x p q I J C w) (hb : Below w.heap.size w w') : FS W1 B0 u1 v1 u2 v2 u3 v3 vin x p q I J C w' :=
  ⟨h.o2.below hb, h.o3.below hb, h.hI.below hb, fun j hj => (h.hJ j hj).below hb, h.hin.below hb, h.hx.below hb, h.ch.bl hb⟩
theorem FS.spoil (h : FS W1 B0 u1 v1 u2 v2 u3 v3 vin x p q I J C w) (h1 : OwnS w B0 u1 v1 p q) (hc : Chg (rows2 u1 v1) w w') (a12 : ApS u1 v1 u2 v2) (a13 : ApS u1 v1 u3 v3) (a1 : ∀ x ∈ I, ApS u1 v1 x.u x.v) (hw : ∀ k, rows2 u1 v1 k → k < W1.heap.size) : FS W1 B0 u1 v1 u2 v2 u3 v3 vin x p q I J C w' :=
  ⟨h.o2.far h1 a12.symm hc, h.o3.far h1 a13.symm hc, h.hI.far h1 a1 hc, fun j hj => (h.hJ j hj).far h1 (ApS.of_lt hw (h.hJ j hj).ge).symm hc, h1.st h.hin hc, h1.st h.hx hc, h.ch.trans hc fun _ _ h => .inl h⟩
theorem FS.blk (h : FS W1 B0 u1 v1 u2 v2 u3 v3 vin x p q I J C w) {C1 : Nat → List Dot × List Sib} (h1 : OwnS W1 B0 u1 v1 p q) (hI : InS W1 B0 I C1) {g : Nat} {cs : Array Value} (bg : GR.Blk W1 g 25 cs) : GR.Blk w g 25 cs :=
  blk_chg bg h.ch fun hr => by
    rcases hr with (hr | hr) | hr
    · exact GR.own_blk_ne h1.d bg (by decide) hr
    · exact GR.own_blk_ne h1.s bg (by decide) hr
    · obtain ⟨cs', e, f, he, hh⟩ := hI.ty hr
      unfold GR.Blk at bg
      rw [hh] at bg
      injection bg with bg
      injection bg with _ h2
      rcases he with rfl | rfl
      · exact absurd h2 (by decide)
      · exact absurd h2 (by decide)
end

set_option maxRecDepth 100000 in
set_option maxHeartbeats 6400000 in
theorem fresh_any (B0 : Nat) (u1 v1 u2 v2 u3 v3 vin : Value) (p : List Dot) (q : List Sib) (I : List StV) (C : Nat → List Dot × List Sib) (w : World) (h1 : OwnS w B0 u1 v1 p q) (h2 : OwnS w B0 u2 v2 p q) (h3 : OwnS w B0 u3 v3 p q)
    (sp : p.length * 16 ≤ 140737488351232) (sq : q.length * 40 ≤ 140737488351232) (np : ∀ d ∈ p, 0 ≤ d.n) (nq : ∀ x ∈ q, 0 ≤ x.d.n) (hin : GR.Own stK w B0 vin I) (hI : I.length ≤ 1000) (hC : InS w B0 I C) (hB : B0 ≤ w.heap.size)
    (a12 : ApS u1 v1 u2 v2) (a13 : ApS u1 v1 u3 v3) (a1 : ∀ x ∈ I, ApS u1 v1 x.u x.v) (a2 : ∀ x ∈ I, ApS u2 v2 x.u x.v) (a3 : ∀ x ∈ I, ApS u3 v3 x.u x.v) (aI : ∀ i j (hi : i < I.length) (hj : j < I.length), i ≠ j → ApS I[i].u I[i].v I[j].u I[j].v) :
    Calls Try.prog 17 #[.agg #[u1, v1], .agg #[u2, v2], .agg #[u3, v3], vin] w fun e w' => e = .returned (.bool true) ∧ (∃ C', InS w' B0 I C' ∧ ∀ i, i < I.length → (C' i).1.length = (C i).1.length ∧ (C' i).2.length = (C i).2.length) ∧ Chg (fun k => rows2 u1 v1 k ∨ inRows I k) w w' := by
  obtain ⟨k0, hk0, kz0, kz1, kz2⟩ := info_parts st_info
  obtain ⟨A1, c1, D1, d1, rfl, rfl, _, _, _, _⟩ := h1.sl (by omega) (by omega)
  obtain ⟨A2, c2, D2, d2, rfl, rfl, _, _, _, _⟩ := h2.sl (by omega) (by omega)
  obtain ⟨A3, c3, D3, d3, rfl, rfl, _, _, _, _⟩ := h3.sl (by omega) (by omega)
  obtain ⟨Ai, ci, rfl, _, _⟩ := hin.rd' (show I.length * 48 ≤ 140737488355328 by omega)
  have H1 := Lib.hid h1
  have H2 := Lib.hid h2
  have H3 := Lib.hid h3
  have NP := Lib.hid np
  have NQ := Lib.hid nq
  have HIN := Lib.hid hin
  have HC := Lib.hid hC
  have A12 := Lib.hid a12
  have A13 := Lib.hid a13
  have AP1 := Lib.hid a1
  have AP2 := Lib.hid a2
  have AP3 := Lib.hid a3
  have API := Lib.hid aI
  clear h1 h2 h3 np nq hin hC a12 a13 a1 a2 a3 aI
  go_enter Try.func17, Try.ntmps17
  go_wp2_with fail
  obtain ⟨W1, hW1⟩ : ∃ W1 : World, W1 = ((w.alloc (.cells #[.slice A1 p.length c1, .slice D1 q.length d1] 25)).alloc (.cells #[.slice A2 p.length c2, .slice D2 q.length d2] 25)).alloc (.cells #[.slice A3 p.length c3, .slice D3 q.length d3] 25) := ⟨_, rfl⟩
  rw [← hW1]
  have LW : Hid (Below w.heap.size w W1) := Lib.hid (by rw [hW1]; exact (by repeat (first | exact Below.refl _ _ | refine bl_drewN ?_ _ | refine bl_drew ?_ | refine bl_alloc ?_ _)))
  have XA : Hid (GR.Blk W1 w.heap.size 25 #[.slice A1 p.length c1, .slice D1 q.length d1]) := Lib.hid (by rw [hW1]; exact ((GR.Blk.new _ _ _).alloc _).alloc _)
  have XB : Hid (GR.Blk W1 (w.heap.size + 1) 25 #[.slice A2 p.length c2, .slice D2 q.length d2]) := Lib.hid (by rw [hW1]; exact (new_at _ _ _ (by simp)).alloc _)
  have XC : Hid (GR.Blk W1 (w.heap.size + 1 + 1) 25 #[.slice A3 p.length c3, .slice D3 q.length d3]) := Lib.hid (by rw [hW1]; exact new_at _ _ _ (by simp))
  clear hW1
  have HB1 : B0 ≤ W1.heap.size := Nat.le_trans hB LW.out.size
  have HC1 := Lib.hid (HC.out.below LW.out)
  have HI1 := Lib.hid (HIN.out.below LW.out)
  go_loopw [9, 10] (fun x0 i w' => ∃ (x : Value) (k : Nat) (J : List StV) (C' : Nat → List Dot × List Sib), x = x0 ∧ k ≤ I.length ∧ i = .int .i64 k ∧ Hid (GR.Own stK w' W1.heap.size x J) ∧ Hid (J.length = k) ∧ Hid (InS w' B0 I C') ∧ Hid (∀ i, i < I.length → (C' i).1.length = (C i).1.length ∧ (C' i).2.length = (C i).2.length) ∧
    Hid (∀ j (h : j < J.length), OwnS w' W1.heap.size J[j].u J[j].v (C' j).1 (C' j).2) ∧ Hid (Chg (inRows I) W1 w')) (fun _ i _ => I.length - (intOf i).toNat)
  case atStart => exact ⟨_, 0, [], C, rfl, Nat.zero_le _, rfl, Lib.hid (GR.Own.nil _ _ _), Lib.hid rfl, HC1, Lib.hid (fun _ _ => ⟨rfl, rfl⟩), Lib.hid (fun j hj => absurd hj (by simp)), Lib.hid (Chg.refl _ _)⟩
  case round =>
    obtain ⟨x, k, J, C', rfl, hk, rfl, hx, hJ, hC', hlen, hJs, hc⟩ := hrel
    have hin := Lib.hid (HC1.out.st HI1.out hc.out)
    have hws : W1.heap.size ≤ wr.heap.size := hc.out.size
    by_cases hlt : k < I.length
    · obtain ⟨gi, capi, ei, ca0, ca1⟩ := st_at hin.out I.length rfl k hlt
      have hA : Ai = some ⟨gi, 0, none⟩ := by injection ei
      have hci : ci = capi := by injection ei
      subst hA hci
      clear ei
      have z0 : (0 : Int) ≤ (k : Int) := by omega
      have z1 : (k : Int) < (I.length : Int) := by omega
      have hk' := hC'.out k hlt
      go_wp2_with fail
      refine (over_any B0 _ _ (C' k).1 (C' k).2 wr hk'.1 hk'.2.1 hk'.2.2.1 hk'.2.2.2.1 hk'.2.2.2.2).mono ?_
      rintro e w2 ⟨⟨r, rfl⟩, a2, l2, ea2, el2, na2, nl2, ho2, hc2⟩
      have K2 := Lib.hid (hC'.out.one API.out hlt ho2 hc2 (by rw [ea2]; exact hk'.2.1) (by rw [el2]; exact hk'.2.2.1) na2 nl2)
      have HL2 := Lib.hid (show ∀ i, i < I.length → ((fun j => if j = k then (a2, l2) else C' j) i).1.length = (C i).1.length ∧ ((fun j => if j = k then (a2, l2) else C' j) i).2.length = (C i).2.length from fun i hi => by
        have := hlen.out i hi
        by_cases hik : i = k
        · subst hik
          simp only [if_true]
          exact ⟨by rw [ea2]; exact this.1, by rw [el2]; exact this.2⟩
        · simp only [if_neg hik]; exact this)
      have X2 := Lib.hid (hk'.1.st hx.out hc2)
      have J2 := Lib.hid (show ∀ j (h : j < J.length), OwnS w2 W1.heap.size J[j].u J[j].v ((fun j => if j = k then (a2, l2) else C' j) j).1 ((fun j => if j = k then (a2, l2) else C' j) j).2 from fun j hj => by
        have hjk : j ≠ k := by have := hJ.out; omega
        simp only [if_neg hjk]
        exact (hJs.out j hj).far hk'.1 (ApS.of_lt (C := W1.heap.size) (fun i hi => (HC1.out k hlt).1.lt i hi) (hJs.out j hj).ge).symm hc2)
      have N2 := Lib.hid (hk'.1.st hin.out hc2)
      have G2 : Hid (Chg (inRows I) W1 w2) := Lib.hid (hc.out.trans hc2 (fun i _ hi => ⟨_, List.getElem_mem hlt, hi⟩))
      have e2 := ownS_n ho2 (by rw [ea2]; exact hk'.2.1) (by rw [el2]; exact hk'.2.2.1)
      have hws2 : W1.heap.size ≤ w2.heap.size := G2.out.size
      have hma2 : a2.length * 16 ≤ 140737488355328 := e2.2.2.2.2.1.max
      have hml2 : l2.length * 40 ≤ 140737488355328 := e2.2.2.2.2.2.max
      have E2 := Lib.hid e2
      clear ho2 hc2 ea2 el2 na2 nl2 hk' e2 ca0 ca1
      have hat2 := (GR.Own.cells N2.out k hlt)
      have ca0 : w2.cell? ⟨gi, k * 2, none⟩ = some (.slice I[k].A I[k].n I[k].c) := (hat2 0 _ rfl).1
      have ca1 : w2.cell? ⟨gi, k * 2 + 1, none⟩ = some (.slice I[k].D I[k].m I[k].d) := (hat2 1 _ rfl).1
      clear hat2
      go_wp2_with fail
      refine (twin_at _ _ _ _ _ _ a2 l2 w2 E2.out.2.2.2.2.1 E2.out.2.2.2.2.2 E2.out.1 E2.out.2.1).mono ?_
      rintro e w3 ⟨t1, t2, rfl, ho3, hb3⟩
      obtain ⟨A4, n4, c4, rfl⟩ := own_slice ho3.d hma2
      obtain ⟨A5, n5, c5, rfl⟩ := own_slice ho3.s hml2
      have T3 := Lib.hid (ho3.base hws2)
      have B3 := Lib.hid hb3
      clear ho3 hb3 ca0 ca1
      have hws3 : W1.heap.size ≤ w3.heap.size := Nat.le_trans hws2 B3.out.size
      go_wp2_with (at_builtin; refine GR.app_all (K := stK) rfl (.tmp 23) (.tmp 29) _ rfl Try.underlying38 hk0 kz0 kz1 kz2 rfl W1.heap.size x J rfl ((X2.out.below B3.out).alloc _) _ 1 1 [⟨A4, n4, c4, A5, n5, c5⟩] rfl rfl (GR.rd_new (K := stK) ⟨A4, n4, c4, A5, n5, c5⟩ rfl (by show 48 ≤ 140737488355328; omega)) (by rw [hJ.out]; show (k + 1) * 48 ≤ _; omega) (Nat.le_trans hws3 (by simp)) ?_; intro x4 w4 ho4 hg4 hat4)
      have G4 : Hid (Chg (fun b => x.ownBlock = some b) w3 w4) := Lib.hid ((chg_bl (by repeat (first | exact Below.refl _ _ | refine bl_drewN ?_ _ | refine bl_drew ?_ | refine bl_alloc ?_ _))).then (chg_grown hg4 (fun b hb _ => hb)))
      have X3 := Lib.hid (X2.out.below B3.out)
      have O4 := Lib.hid ho4
      clear ho4 hg4 hat4
      go_roundw
      case rel => exact ⟨_, k + 1, _, _, rfl, by omega, by go_num, O4, Lib.hid (by rw [List.length_append, hJ.out]; rfl), Lib.hid ((K2.out.below B3.out).grow X3.out G4.out), HL2, Lib.hid (fun j hj => by
          by_cases hjk : j < J.length
          · rw [List.getElem_append_left hjk]
            exact ((J2.out j hjk).below B3.out).grow X3.out G4.out
          · have hj2 : j = k := by have := hJ.out; rw [List.length_append] at hj; simp at hj; omega
            have hj3 : (J ++ [(⟨A4, n4, c4, A5, n5, c5⟩ : StV)])[j] = ⟨A4, n4, c4, A5, n5, c5⟩ := by
              rw [List.getElem_append_right (by omega)]; simp
            rw [hj3]
            subst hj2
            simp only [if_true]
            exact T3.out.grow X3.out G4.out),
        Lib.hid ((G2.out.bl B3.out).trans G4.out (fun i hi h => absurd ((X3.out.lt i h).1) (Nat.not_le.2 hi)))⟩
      case measure => simp [intOf]; omega
    · obtain rfl : k = I.length := by omega
      have H1W := Lib.hid (H1.out.below LW.out)
      have hH1 : ∀ k, rows2 (.slice A1 p.length c1) (.slice D1 q.length d1) k → k < W1.heap.size := H1W.out.lt
      have E1 := Lib.hid (H1W.out.farI HC1.out AP1.out hc.out)
      have F0 : Hid (FS W1 B0 (.slice A1 p.length c1) (.slice D1 q.length d1) (.slice A2 p.length c2) (.slice D2 q.length d2) (.slice A3 p.length c3) (.slice D3 q.length d3) (.slice Ai I.length ci) x p q I J C' wr) :=
        Lib.hid ⟨(H2.out.below LW.out).farI HC1.out AP2.out hc.out, (H3.out.below LW.out).farI HC1.out AP3.out hc.out, hC'.out, hJs.out, hin.out, hx.out, hc.out.wider fun _ h => .inr h⟩
      have HL := hlen
      have HJ := hJ
      have bp : p.length * 16 ≤ 140737488355328 := by omega
      have bq : q.length * 40 ≤ 140737488355328 := by omega
      clear hin hx hC' hlen hJs hc hJ hws
      have oa0 : wr.cell? ⟨w.heap.size, 0, none⟩ = some (.slice A1 p.length c1) := (F0.out.blk H1W.out HC1.out XA.out).cell 0
      have oa1 : wr.cell? ⟨w.heap.size, 1, none⟩ = some (.slice D1 q.length d1) := (F0.out.blk H1W.out HC1.out XA.out).cell 1
      have ob0 : wr.cell? ⟨w.heap.size + 1, 0, none⟩ = some (.slice A2 p.length c2) := (F0.out.blk H1W.out HC1.out XB.out).cell 0
      have ob1 : wr.cell? ⟨w.heap.size + 1, 1, none⟩ = some (.slice D2 q.length d2) := (F0.out.blk H1W.out HC1.out XB.out).cell 1
      have oc0 : wr.cell? ⟨w.heap.size + 1 + 1, 0, none⟩ = some (.slice A3 p.length c3) := (F0.out.blk H1W.out HC1.out XC.out).cell 0
      have oc1 : wr.cell? ⟨w.heap.size + 1 + 1, 1, none⟩ = some (.slice D3 q.length d3) := (F0.out.blk H1W.out HC1.out XC.out).cell 1
      go_wp2_with fail
      refine (same_self _ _ _ _ _ _ _ _ _ _ _ _ p q _ (E1.out.d.rd bp).2.2 (E1.out.s.rd bq).2.2 (F0.out.o3.d.rd bp).2.2 (F0.out.o3.s.rd bq).2.2 rfl rfl rfl rfl).mono ?_
      rintro e w5 ⟨rfl, hb_⟩
      have F5 := Lib.hid (F0.out.below hb_)
      have E5 := Lib.hid (E1.out.below hb_)
      clear hb_ F0 E1 oa0 oa1 ob0 ob1 oc0 oc1
      have oa0 : w5.cell? ⟨w.heap.size, 0, none⟩ = some (.slice A1 p.length c1) := (F5.out.blk H1W.out HC1.out XA.out).cell 0
      have oa1 : w5.cell? ⟨w.heap.size, 1, none⟩ = some (.slice D1 q.length d1) := (F5.out.blk H1W.out HC1.out XA.out).cell 1
      have ob0 : w5.cell? ⟨w.heap.size + 1, 0, none⟩ = some (.slice A2 p.length c2) := (F5.out.blk H1W.out HC1.out XB.out).cell 0
      have ob1 : w5.cell? ⟨w.heap.size + 1, 1, none⟩ = some (.slice D2 q.length d2) := (F5.out.blk H1W.out HC1.out XB.out).cell 1
      have oc0 : w5.cell? ⟨w.heap.size + 1 + 1, 0, none⟩ = some (.slice A3 p.length c3) := (F5.out.blk H1W.out HC1.out XC.out).cell 0
      have oc1 : w5.cell? ⟨w.heap.size + 1 + 1, 1, none⟩ = some (.slice D3 q.length d3) := (F5.out.blk H1W.out HC1.out XC.out).cell 1
      go_wp2_with fail
      refine (same_self _ _ _ _ _ _ _ _ _ _ _ _ p q _ (F5.out.o2.d.rd bp).2.2 (F5.out.o2.s.rd bq).2.2 (F5.out.o3.d.rd bp).2.2 (F5.out.o3.s.rd bq).2.2 rfl rfl rfl rfl).mono ?_
      rintro e w6 ⟨rfl, hb_⟩
      have F6 := Lib.hid (F5.out.below hb_)
      have E6 := Lib.hid (E5.out.below hb_)
      clear hb_ F5 E5 oa0 oa1 ob0 ob1 oc0 oc1
      have oa0 : w6.cell? ⟨w.heap.size, 0, none⟩ = some (.slice A1 p.length c1) := (F6.out.blk H1W.out HC1.out XA.out).cell 0
      have oa1 : w6.cell? ⟨w.heap.size, 1, none⟩ = some (.slice D1 q.length d1) := (F6.out.blk H1W.out HC1.out XA.out).cell 1
      have ob0 : w6.cell? ⟨w.heap.size + 1, 0, none⟩ = some (.slice A2 p.length c2) := (F6.out.blk H1W.out HC1.out XB.out).cell 0
      have ob1 : w6.cell? ⟨w.heap.size + 1, 1, none⟩ = some (.slice D2 q.length d2) := (F6.out.blk H1W.out HC1.out XB.out).cell 1
      have oc0 : w6.cell? ⟨w.heap.size + 1 + 1, 0, none⟩ = some (.slice A3 p.length c3) := (F6.out.blk H1W.out HC1.out XC.out).cell 0
      have oc1 : w6.cell? ⟨w.heap.size + 1 + 1, 1, none⟩ = some (.slice D3 q.length d3) := (F6.out.blk H1W.out HC1.out XC.out).cell 1
      have hB6 : B0 ≤ w6.heap.size := Nat.le_trans HB1 F6.out.ch.size
      go_wp2_with fail
      refine (spoil_any B0 _ _ p q _ E6.out hB6 sp sq NP.out NQ.out).mono ?_
      rintro e w7 ⟨⟨r, rfl⟩, hc_⟩
      have F7 := Lib.hid (F6.out.spoil E6.out hc_ A12.out A13.out AP1.out hH1)
      clear hc_ F6 E6 oa0 oa1 ob0 ob1 oc0 oc1
      have oa0 : w7.cell? ⟨w.heap.size, 0, none⟩ = some (.slice A1 p.length c1) := (F7.out.blk H1W.out HC1.out XA.out).cell 0
      have oa1 : w7.cell? ⟨w.heap.size, 1, none⟩ = some (.slice D1 q.length d1) := (F7.out.blk H1W.out HC1.out XA.out).cell 1
      have ob0 : w7.cell? ⟨w.heap.size + 1, 0, none⟩ = some (.slice A2 p.length c2) := (F7.out.blk H1W.out HC1.out XB.out).cell 0
      have ob1 : w7.cell? ⟨w.heap.size + 1, 1, none⟩ = some (.slice D2 q.length d2) := (F7.out.blk H1W.out HC1.out XB.out).cell 1
      have oc0 : w7.cell? ⟨w.heap.size + 1 + 1, 0, none⟩ = some (.slice A3 p.length c3) := (F7.out.blk H1W.out HC1.out XC.out).cell 0
      have oc1 : w7.cell? ⟨w.heap.size + 1 + 1, 1, none⟩ = some (.slice D3 q.length d3) := (F7.out.blk H1W.out HC1.out XC.out).cell 1
      go_wp2_with fail
      refine (same_self _ _ _ _ _ _ _ _ _ _ _ _ p q _ (F7.out.o2.d.rd bp).2.2 (F7.out.o2.s.rd bq).2.2 (F7.out.o3.d.rd bp).2.2 (F7.out.o3.s.rd bq).2.2 rfl rfl rfl rfl).mono ?_
      rintro e w8 ⟨rfl, hb_⟩
      have F8 := Lib.hid (F7.out.below hb_)
      clear hb_ F7 oa0 oa1 ob0 ob1 oc0 oc1
      go_wp2
      go_loopw [11] (fun i w' => ∃ k : Nat, k ≤ I.length ∧ i = .int .i64 k ∧ Hid (FS W1 B0 (.slice A1 p.length c1) (.slice D1 q.length d1) (.slice A2 p.length c2) (.slice D2 q.length d2) (.slice A3 p.length c3) (.slice D3 q.length d3) (.slice Ai I.length ci) x p q I J C' w')) (fun i _ => I.length - (intOf i).toNat)
      case atStart => exact ⟨0, Nat.zero_le _, rfl, F8⟩
      case round =>
        clear F8
        obtain ⟨k, hk, rfl, F9⟩ := hrel
        by_cases hlt : k < I.length
        · obtain ⟨gi, capi, ei, ca0, ca1⟩ := st_at F9.out.hin I.length rfl k hlt
          have hA : Ai = some ⟨gi, 0, none⟩ := by injection ei
          have hci : ci = capi := by injection ei
          subst hA hci
          clear ei
          obtain ⟨gj, capj, ej, cb0, cb1⟩ := st_at F9.out.hx I.length HJ.out k hlt
          subst ej
          have z0 : (0 : Int) ≤ (k : Int) := by omega
          have z1 : (k : Int) < (I.length : Int) := by omega
          have hkI := F9.out.hI k hlt
          have hkJ := F9.out.hJ k (by rw [HJ.out]; exact hlt)
          have eI := Lib.hid (ownS_n hkI.1 hkI.2.1 hkI.2.2.1)
          have eJ := Lib.hid (ownS_n hkJ hkI.2.1 hkI.2.2.1)
          clear hkI hkJ
          have ra0 := over_cell ca0
          have ra1 := over_cell ca1
          have rb0 := over_cell cb0
          have rb1 := over_cell cb1
          go_wp2
          refine over_region (W := wr) (by kernel_rfl) (by kernel_rfl) (by repeat (first | exact Below.refl _ _ | refine bl_drewN ?_ _ | refine bl_drew ?_ | refine bl_alloc ?_ _)) ?_
          repeat (go_big_quiet_step (refine over_of (same_self _ _ _ _ _ _ _ _ _ _ _ _ (C' k).1 (C' k).2 _ (GR.Rd.below eI.out.2.2.2.2.1 (Over.h _)) (GR.Rd.below eI.out.2.2.2.2.2 (Over.h _)) (GR.Rd.below eJ.out.2.2.2.2.1 (Over.h _)) (GR.Rd.below eJ.out.2.2.2.2.2 (Over.h _)) eI.out.1 eI.out.2.1 eJ.out.1 eJ.out.2.1)))
          refine wpQuiet_nil ?_
          intro _ hx_
          obtain ⟨x_, hx_⟩ := hx_
          subst hx_
          obtain ⟨w2, hb2⟩ := x_
          dsimp only
          have F2 := Lib.hid (F9.out.below hb2)
          clear ra0 ra1 rb0 rb1 ca0 ca1 cb0 cb1 hb2
          go_wp2
          go_roundw
          case rel => exact ⟨k + 1, by omega, by go_num, F2⟩
          case measure => simp [intOf]; omega
        · obtain rfl : k = I.length := by omega
          go_wp2
          go_ret
          exact ⟨rfl, ⟨C', F9.out.hI, HL.out⟩, (chg_bl LW.out).then F9.out.ch⟩
end Go.Proofs.Ytlmnmlehnigfdaa
