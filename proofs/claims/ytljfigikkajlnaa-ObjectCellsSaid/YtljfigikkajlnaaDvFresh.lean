/- DERIVED. The statements' own helpers: fresh. -/
import Derived.Test.YtljfigikkajlnaaDvSame
import Derived.Test.YtljfigikkajlnaaDvSt
namespace Go.Proofs.Ytljfigikkajlnaa
open Go.RowKit
set_option linter.unusedVariables false
set_option linter.unusedSimpArgs false

/-- A state's two slices, as they stand in a slice of states. -/
structure StV where
  A : Option Addr
  n : Nat
  c : Nat
  D : Option Addr
  m : Nat
  d : Nat
def StV.u (x : StV) : Value := .slice x.A x.n x.c
def StV.v (x : StV) : Value := .slice x.D x.m x.d
def stK : GR.Kind StV where
  e := 25
  s := 2
  b := 48
  enc := fun x => [.slice x.A x.n x.c, .slice x.D x.m x.d]
  len := fun _ => rfl
  one := fun x u hu => by
    simp only [List.mem_cons, List.not_mem_nil, or_false] at hu
    rcases hu with rfl | rfl <;> rfl
  hs := by omega
  hb := by omega
theorem st_info : (Try.prog.info? 25).map (fun i => (i.zero, i.size, i.bytes)) = some (some (.agg #[.slice none 0 0, .slice none 0 0]), 2, 48) := by kernel_rfl
/-- The rows of states. -/
def inRows (I : List StV) (k : Nat) : Prop := ∃ x ∈ I, rows2 x.u x.v k
/-- States in rows of the call's own, of counts that are no less than 0. -/
def InS (w : World) (B : Nat) (I : List StV) (C : Nat → List Dot × List Sib) : Prop :=
  ∀ i (h : i < I.length), OwnS w B I[i].u I[i].v (C i).1 (C i).2 ∧ (C i).1.length * 16 ≤ 140737488351232 ∧ (C i).2.length * 40 ≤ 140737488351232 ∧ (∀ d ∈ (C i).1, 0 ≤ d.n) ∧ (∀ x ∈ (C i).2, 0 ≤ x.d.n)
section
variable {w w' : World} {B B' : Nat} {I : List StV} {C : Nat → List Dot × List Sib}
theorem InS.below (h : InS w B I C) (hb : Below w.heap.size w w') : InS w' B I C := fun i hi => ⟨(h i hi).1.below hb, (h i hi).2⟩
theorem InS.ty (h : InS w B I C) {k : Nat} (hk : inRows I k) : ∃ cs e f, (e = 41 ∨ e = 67) ∧ w.heap[k]? = some (.cells cs e f) := by
  obtain ⟨x, hx, hk⟩ := hk
  obtain ⟨i, hi, rfl⟩ := List.getElem_of_mem hx
  have := (h i hi).1
  rcases hk with hk | hk
  · rcases this.d.2 with ⟨h0, _⟩ | ⟨g, cap, cur, h0, _, hh, _⟩
    · rw [h0] at hk; cases hk
    · rw [h0] at hk; cases hk; exact ⟨_, _, _, .inl rfl, hh⟩
  · rcases this.s.2 with ⟨h0, _⟩ | ⟨g, cap, cur, h0, _, hh, _⟩
    · rw [h0] at hk; cases hk
    · rw [h0] at hk; cases hk; exact ⟨_, _, _, .inr rfl, hh⟩
theorem InS.blk (h : InS w B I C) {g : Nat} {cs : Array Value} (bg : GR.Blk w g 25 cs) (hc : Chg (inRows I) w w') : GR.Blk w' g 25 cs :=
  blk_chg bg hc fun hr => by
    obtain ⟨cs', e, f, he, hh⟩ := h.ty hr
    unfold GR.Blk at bg
    rw [hh] at bg
    injection bg with bg
    injection bg with _ h2
    rcases he with rfl | rfl
    · exact absurd h2 (by decide)
    · exact absurd h2 (by decide)
theorem own_not {v : Value} {J : List StV} (h : GR.Own stK w B v J) {k : Nat} {cs : Array Value} {e : TypeId} {f : Nat × Nat} (he : e = 41 ∨ e = 67) (hh : w.heap[k]? = some (.cells cs e f)) : v.ownBlock ≠ some k := by
  intro hk
  rcases h.2 with ⟨rfl, _⟩ | ⟨g, cap, cur, rfl, _, h2, _⟩
  · cases hk
  · cases hk
    rw [hh] at h2
    injection h2 with h2
    injection h2 with _ h3
    rcases he with rfl | rfl
    · exact absurd h3 (by decide)
    · exact absurd h3 (by decide)
theorem InS.st {v : Value} {J : List StV} (h : InS w B I C) (k : GR.Own stK w B' v J) (hc : Chg (inRows I) w w') : GR.Own stK w' B' v J :=
  own_chg k hc fun i hi hr => by
    obtain ⟨cs', e, f, he, hh⟩ := h.ty hr
    exact own_not k he hh hi
theorem OwnS.st {u v x : Value} {a : List Dot} {l : List Sib} {J : List StV} (h : OwnS w B u v a l) (k : GR.Own stK w B' x J) (hc : Chg (rows2 u v) w w') : GR.Own stK w' B' x J :=
  own_chg k hc fun i hi hr => by
    rcases hr with hr | hr
    · exact own_ne k h.d (by decide) i hi hr
    · exact own_ne k h.s (by decide) i hi hr
theorem OwnS.grow {u v x : Value} {a : List Dot} {l : List Sib} {J : List StV} (h : OwnS w B u v a l) (k : GR.Own stK w B' x J) (hc : Chg (fun i => x.ownBlock = some i) w w') : OwnS w' B u v a l :=
  ⟨own_chg h.d hc fun i hi hr => own_ne h.d k (by decide) i hi hr, own_chg h.s hc fun i hi hr => own_ne h.s k (by decide) i hi hr⟩
theorem InS.grow {x : Value} {J : List StV} (h : InS w B I C) (k : GR.Own stK w B' x J) (hc : Chg (fun i => x.ownBlock = some i) w w') : InS w' B I C := fun i hi => ⟨(h i hi).1.grow k hc, (h i hi).2⟩
theorem OwnS.farI {u v : Value} {a : List Dot} {l : List Sib} (h : OwnS w B u v a l) (k : InS w B' I C) (ap : ∀ x ∈ I, ApS u v x.u x.v) (hc : Chg (inRows I) w w') : OwnS w' B u v a l :=
  ⟨own_chg h.d hc fun i hi ⟨x, hx, hr⟩ => by
    have hap := ap x hx
    obtain ⟨j, hj, rfl⟩ := List.getElem_of_mem hx
    rcases hr with hr | hr
    · exact hap.d i hi hr
    · exact own_ne h.d (k j hj).1.s (by decide) i hi hr,
   own_chg h.s hc fun i hi ⟨x, hx, hr⟩ => by
    have hap := ap x hx
    obtain ⟨j, hj, rfl⟩ := List.getElem_of_mem hx
    rcases hr with hr | hr
    · exact own_ne h.s (k j hj).1.d (by decide) i hi hr
    · exact hap.s i hi hr⟩
theorem InS.far {u v : Value} {a : List Dot} {l : List Sib} (h : InS w B I C) (k : OwnS w B' u v a l) (ap : ∀ x ∈ I, ApS u v x.u x.v) (hc : Chg (rows2 u v) w w') : InS w' B I C := fun i hi =>
  ⟨(h i hi).1.far k (ap _ (List.getElem_mem hi)).symm hc, (h i hi).2⟩
/-- One of the states is written over. -/
theorem InS.one (h : InS w B I C) (ap : ∀ i j (hi : i < I.length) (hj : j < I.length), i ≠ j → ApS I[i].u I[i].v I[j].u I[j].v) {k : Nat} (hk : k < I.length) {a : List Dot} {l : List Sib} (ho : OwnS w' B I[k].u I[k].v a l) (hc : Chg (rows2 I[k].u I[k].v) w w')
    (ha : a.length * 16 ≤ 140737488351232) (hl : l.length * 40 ≤ 140737488351232) (na : ∀ d ∈ a, 0 ≤ d.n) (nl : ∀ x ∈ l, 0 ≤ x.d.n) : InS w' B I (fun j => if j = k then (a, l) else C j) := fun i hi => by
  by_cases hik : i = k
  · subst hik
    simp only [if_true]
    exact ⟨ho, ha, hl, na, nl⟩
  · simp only [if_neg hik]
    exact ⟨(h i hi).1.far (h k hk).1 (ap i k hi hk hik) hc, (h i hi).2⟩
theorem ownS_n {x : StV} {a : List Dot} {l : List Sib} (h : OwnS w B x.u x.v a l) (ha : a.length * 16 ≤ 140737488351232) (hl : l.length * 40 ≤ 140737488351232) : x.n = a.length ∧ x.m = l.length ∧ a.length ≤ x.c ∧ l.length ≤ x.d ∧ GR.Rd dotK w x.A a ∧ GR.Rd sibK w x.D l := by
  have h1 := h.d.rd (show a.length * 16 ≤ 140737488355328 by omega)
  have h2 := h.s.rd (show l.length * 40 ≤ 140737488355328 by omega)
  exact ⟨h1.1, h2.1, by have := h1.2.1; omega, by have := h2.2.1; omega, h1.2.2, h2.2.2⟩
end

theorem same_self (A B C D : Option Addr) (c1 c2 c3 c4 n m n' m' : Nat) (a : List Dot) (l : List Sib) (w : World) (ha : GR.Rd dotK w A a) (hl : GR.Rd sibK w B l) (hb : GR.Rd dotK w C a) (hm : GR.Rd sibK w D l) (h1 : n = a.length) (h2 : m = l.length) (h3 : n' = a.length) (h4 : m' = l.length) :
    Calls Try.prog 99 #[.agg #[.slice A n c1, .slice B m c2], .agg #[.slice C n' c3, .slice D m' c4]] w fun e w' => e = .returned (.bool true) ∧ Below w.heap.size w w' := by
  subst h1 h2 h3 h4
  refine (refSame_any A B C D c1 c2 c3 c4 a a l l w ha hl hb hm).mono ?_
  rintro e w' ⟨rfl, hb⟩
  exact ⟨by simp [stEq], hb⟩
/-- An element of a slice of states. -/
theorem st_at {w : World} {B : Nat} {v : Value} {J : List StV} (h : GR.Own stK w B v J) (n : Nat) (hn : J.length = n) (i : Nat) (hi : i < n) : ∃ g cap : Nat, v = .slice (some ⟨g, 0, none⟩) n cap ∧ w.cell? ⟨g, i * 2, none⟩ = some (.slice (J[i]'(by omega)).A (J[i]'(by omega)).n (J[i]'(by omega)).c) ∧ w.cell? ⟨g, i * 2 + 1, none⟩ = some (.slice (J[i]'(by omega)).D (J[i]'(by omega)).m (J[i]'(by omega)).d) := by
  obtain ⟨g, cap, rfl, _, _⟩ := own_lit h n hn (by omega)
  have hc := GR.Own.cells h i (by omega)
  exact ⟨g, cap, rfl, (hc 0 _ rfl).1, (hc 1 _ rfl).1⟩

/-- How things stand behind fresh's first loop. -/
structure FS (W1 : World) (B0 : Nat) (u1 v1 u2 v2 u3 v3 vin x : Value) (p : List Dot) (q : List Sib) (I J : List StV) (C : Nat → List Dot × List Sib) (w : World) : Prop where
  o2 : OwnS w B0 u2 v2 p q
  o3 : OwnS w B0 u3 v3 p q
  hI : InS w B0 I C
  hJ : ∀ j (h : j < J.length), OwnS w W1.heap.size J[j].u J[j].v (C j).1 (C j).2
  hin : GR.Own stK w B0 vin I
  hx : GR.Own stK w W1.heap.size x J
  ch : Chg (fun k => rows2 u1 v1 k ∨ inRows I k) W1 w
section
variable {W1 w w' : World} {B0 : Nat} {u1 v1 u2 v2 u3 v3 vin x : Value} {p : List Dot} {q : List Sib} {I J : List StV} {C : Nat → List Dot × List Sib}
theorem FS.below (h : FS W1 B0 u1 v1 u2 v2 u3 v3 vin x p q I J C w) (hb : Below w.heap.size w w') : FS W1 B0 u1 v1 u2 v2 u3 v3 vin x p q I J C w' :=
  ⟨h.o2.below hb, h.o3.below hb, h.hI.below hb, fun j hj => (h.hJ j hj).below hb, h.hin.below hb, h.hx.below hb, h.ch.bl hb⟩
theorem FS.spoil (h : FS W1 B0 u1 v1 u2 v2 u3 v3 vin x p q I J C w) (h1 : OwnS w B0 u1 v1 p q) (hc : Chg (rows2 u1 v1) w w') (a12 : ApS u1 v1 u2 v2) (a13 : ApS u1 v1 u3 v3) (a1 : ∀ x ∈ I, ApS u1 v1 x.u x.v) (hw : ∀ k, rows2 u1 v1 k → k < W1.heap.size) : FS W1 B0 u1 v1 u2 v2 u3 v3 vin x p q I J C w' :=
  ⟨h.o2.far h1 a12.symm hc, h.o3.far h1 a13.symm hc, h.hI.far h1 a1 hc, fun j hj => (h.hJ j hj).far h1 (ApS.of_lt hw (h.hJ j hj).ge).symm hc, h1.st h.hin hc, h1.st h.hx hc, h.ch.trans hc fun _ _ h => .inl h⟩
theorem FS.blk (h : FS W1 B0 u1 v1 u2 v2 u3 v3 vin x p q I J C w) {C1 : Nat → List Dot × List Sib} (h1 : OwnS W1 B0 u1 v1 p q) (hI : InS W1 B0 I C1) {g : Nat} {cs : Array Value} (bg : GR.Blk W1 g 25 cs) : GR.Blk w g 25 cs :=
  blk_chg bg h.ch fun hr => by
    rcases hr with (hr | hr) | hr
    · exact GR.own_blk_ne h1.d bg (by decide) hr
    · exact GR.own_blk_ne h1.s bg (by decide) hr
    · obtain ⟨cs', e, f, he, hh⟩ := hI.ty hr
      unfold GR.Blk at bg
      rw [hh] at bg
      injection bg with bg
      injection bg with _ h2
      rcases he with rfl | rfl
      · exact absurd h2 (by decide)
      · exact absurd h2 (by decide)
end

end Go.Proofs.Ytljfigikkajlnaa
