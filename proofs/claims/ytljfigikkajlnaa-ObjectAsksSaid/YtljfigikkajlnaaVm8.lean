/- DERIVED. What changes in some blocks alone; the marks behind a state's lists. The statements' own helpers: fresh. -/
import Derived.Test.YtljfigikkajlnaaVm1
import Derived.Test.YtljfigikkajlnaaVDvCmp
import Derived.Test.YtljfigikkajlnaaVDvSame
import Derived.Test.YtljfigikkajlnaaVm6
import Derived.WalkMore
import Derived.Lib.Strings
import Derived.Laws.Runes
namespace Go.Proofs.Ytljfigikkajlnaa
open Go.RowKit
set_option linter.unusedVariables false
set_option linter.unusedSimpArgs false
/-- The world is changed in the blocks S alone (and has new ones). -/
structure Chg (S : Nat → Prop) (w w' : World) : Prop where
  os : w'.os = w.os
  tape : w'.tape = w.tape
  output : w'.output = w.output
  size : w.heap.size ≤ w'.heap.size
  block : ∀ k, k < w.heap.size → ¬ S k → w'.heap[k]? = w.heap[k]?
theorem Chg.refl (S : Nat → Prop) (w : World) : Chg S w w := ⟨rfl, rfl, rfl, Nat.le_refl _, fun _ _ _ => rfl⟩
theorem Chg.trans {S T : Nat → Prop} {a b c : World} (h : Chg S a b) (k : Chg T b c) (hT : ∀ i, i < a.heap.size → T i → S i) : Chg S a c :=
  ⟨k.os.trans h.os, k.tape.trans h.tape, k.output.trans h.output, Nat.le_trans h.size k.size, fun i hi hn => (k.block i (Nat.lt_of_lt_of_le hi h.size) (fun ht => hn (hT i hi ht))).trans (h.block i hi hn)⟩
theorem Chg.then {S : Nat → Prop} {a b c : World} (h : Chg S a b) (k : Chg S b c) : Chg S a c := h.trans k fun _ _ h => h
theorem chg_bl {S : Nat → Prop} {w w' : World} (h : Below w.heap.size w w') : Chg S w w' := ⟨h.os, h.tape, h.output, h.size, fun k hk _ => h.block k hk⟩
theorem Chg.bl {S : Nat → Prop} {a b c : World} (h : Chg S a b) (k : Below b.heap.size b c) : Chg S a c := h.then (chg_bl k)
theorem chg_set {S : Nat → Prop} {w : World} {g : Nat} (i : Nat) (u : Value) (hg : S g ∨ w.heap.size ≤ g) : Chg S w (w.setCell ⟨g, i, none⟩ u) :=
  ⟨rfl, rfl, rfl, by simp [World.setCell], fun k hk hn => Below.heap_setCell _ _ _ _ (by
    rintro rfl
    rcases hg with hg | hg
    · exact hn hg
    · exact absurd hk (Nat.not_lt.2 hg))⟩
theorem Chg.below {S : Nat → Prop} {w w' : World} {B : Nat} (h : Chg S w w') (hB : B ≤ w.heap.size) (hS : ∀ k, S k → B ≤ k) : Below B w w' :=
  ⟨h.os, h.tape, h.output, h.size, fun k hk => h.block k (Nat.lt_of_lt_of_le hk hB) (fun hs => absurd (hS k hs) (Nat.not_le.2 hk))⟩
theorem Chg.none {S : Nat → Prop} {w w' : World} (h : Chg S w w') (hS : ∀ k, ¬ S k) : Below w.heap.size w w' := h.below (Nat.le_refl _) fun k hk => absurd hk (hS k)
section
variable {α : Type} {K : GR.Kind α} {w w' : World} {B : Nat} {v : Value} {l : List α} {S : Nat → Prop}
theorem own_chg (h : GR.Own K w B v l) (hc : Chg S w w') (hv : ∀ k, v.ownBlock = some k → ¬ S k) : GR.Own K w' B v l := by
  refine ⟨h.1, ?_⟩
  rcases h.2 with hn | ⟨g, cap, cur, rfl, hb, hgg, rest⟩
  · exact .inl hn
  · refine .inr ⟨g, cap, cur, rfl, hb, ?_, rest⟩
    rw [hc.block g (Array.getElem?_eq_some_iff.1 hgg).1 (hv g rfl)]
    exact hgg
theorem blk_chg {g : Nat} {t : TypeId} {cs : Array Value} (h : GR.Blk w g t cs) (hc : Chg S w w') (hg : ¬ S g) : GR.Blk w' g t cs := (hc.block g h.lt hg).trans h
end
theorem own_farI {α : Type} {K : GR.Kind α} {w : World} {g B : Nat} {t : TypeId} {cs : Array Value} {v : Value} {l : List α} (h : GR.Own K w B v l) (bg : GR.Blk w g t cs) (i : Nat) (u : Value) (hne : K.e ≠ t) : GR.Own K (w.setCell ⟨g, i, none⟩ u) B v l :=
  own_chg (S := fun k => k = g) h (chg_set i u (.inl rfl)) fun k hk e => by subst e; exact GR.own_blk_ne h bg hne hk
theorem own_lit {α : Type} {K : GR.Kind α} {w : World} {B : Nat} {v : Value} {l : List α} (h : GR.Own K w B v l) (n : Nat) (hn : l.length = n) (h0 : 0 < n) : ∃ g cap : Nat, v = .slice (some ⟨g, 0, none⟩) n cap ∧ n ≤ cap ∧ cap ≤ 9223372036854775807 := by
  subst hn
  rcases h.2 with ⟨_, h1⟩ | ⟨g, cap, cur, rfl, _, _, h1, h2, _⟩
  · omega
  · exact ⟨g, cap, rfl, h1, h2⟩
/-- The blocks of two values' rows. -/
def rows2 (u v : Value) (k : Nat) : Prop := u.ownBlock = some k ∨ v.ownBlock = some k
theorem own_ne {α β : Type} {K : GR.Kind α} {J : GR.Kind β} {w : World} {B B' : Nat} {u v : Value} {l : List α} {m : List β} (h : GR.Own K w B u l) (k : GR.Own J w B' v m) (hne : K.e ≠ J.e) : ∀ i, u.ownBlock = some i → v.ownBlock ≠ some i := fun i hi => by
  rcases own_apart h k hne with h0 | h0
  · rw [h0] at hi; cases hi
  · intro e; exact h0 (by rw [hi, e])
/-- A value's state: dots and siblings in rows of the call's own. -/
structure OwnS (w : World) (B : Nat) (u v : Value) (a : List Dot) (l : List Sib) : Prop where
  d : GR.Own dotK w B u a
  s : GR.Own sibK w B v l
/-- No row of the one is a row of the other. -/
structure ApS (u v x y : Value) : Prop where
  d : ∀ k, u.ownBlock = some k → x.ownBlock ≠ some k
  s : ∀ k, v.ownBlock = some k → y.ownBlock ≠ some k
theorem ApS.symm {u v x y : Value} (h : ApS u v x y) : ApS x y u v := ⟨fun k hk e => h.d k e hk, fun k hk e => h.s k e hk⟩
section
variable {w w' : World} {B B' : Nat} {u v x y : Value} {a b : List Dot} {l m : List Sib}
theorem OwnS.below (h : OwnS w B u v a l) (hb : Below w.heap.size w w') : OwnS w' B u v a l := ⟨h.d.below hb, h.s.below hb⟩
theorem OwnS.base (h : OwnS w B u v a l) (hB : B' ≤ B) : OwnS w B' u v a l := ⟨h.d.base hB, h.s.base hB⟩
/-- The other state's rows change: this state stays. -/
theorem OwnS.far (h : OwnS w B u v a l) (k : OwnS w B' x y b m) (ap : ApS u v x y) (hc : Chg (rows2 x y) w w') : OwnS w' B u v a l :=
  ⟨own_chg h.d hc fun i hi hr => by
    rcases hr with hr | hr
    · exact ap.d i hi hr
    · exact own_ne h.d k.s (by decide) i hi hr,
   own_chg h.s hc fun i hi hr => by
    rcases hr with hr | hr
    · exact own_ne h.s k.d (by decide) i hi hr
    · exact ap.s i hi hr⟩
theorem OwnS.lt (h : OwnS w B u v a l) : ∀ k, rows2 u v k → k < w.heap.size := fun k hk => by
  rcases hk with hk | hk
  · exact (h.d.lt k hk).2
  · exact (h.s.lt k hk).2
theorem OwnS.blk {g : Nat} {cs : Array Value} (h : OwnS w B u v a l) (bg : GR.Blk w g 25 cs) (hc : Chg (rows2 u v) w w') : GR.Blk w' g 25 cs :=
  blk_chg bg hc fun hr => by
    rcases hr with hr | hr
    · exact GR.own_blk_ne h.d bg (by decide) hr
    · exact GR.own_blk_ne h.s bg (by decide) hr
theorem OwnS.sl (h : OwnS w B u v a l) (ha : a.length * 16 ≤ 140737488355328) (hl : l.length * 40 ≤ 140737488355328) : ∃ A c D d, u = .slice A a.length c ∧ v = .slice D l.length d ∧ a.length ≤ c ∧ l.length ≤ d ∧ GR.Rd dotK w A a ∧ GR.Rd sibK w D l := by
  obtain ⟨A, c, e1, h1, r1⟩ := h.d.rd' ha
  obtain ⟨D, d, e2, h2, r2⟩ := h.s.rd' hl
  exact ⟨A, c, D, d, e1, e2, h1, h2, r1, r2⟩
end
theorem csd_set (l : List Dot) (i : Nat) (x : Dot) (hi : i < l.length) : GR.cs dotK (l.set i x) = ((GR.cs dotK l).set (i * 2) (.int .u32 x.a)).set (i * 2 + 1) (.int .u64 x.n) := by
  induction l generalizing i with
  | nil => exact absurd hi (by simp)
  | cons y l ih =>
    cases i with
    | zero => rfl
    | succ i =>
      rw [List.set_cons_succ, GR.cs_cons, GR.cs_cons, ih i (by simpa using hi)]
      rw [show (i + 1) * 2 = i * 2 + 1 + 1 by omega]
      rfl
theorem css_set (l : List Sib) (i : Nat) (x : Sib) (hi : i < l.length) : GR.cs sibK (l.set i x) = ((((GR.cs sibK l).set (i * 4) (.int .u32 x.d.a)).set (i * 4 + 1) (.int .u64 x.d.n)).set (i * 4 + 2) (.bool x.gone)).set (i * 4 + 3) (.string x.v) := by
  induction l generalizing i with
  | nil => exact absurd hi (by simp)
  | cons y l ih =>
    cases i with
    | zero => rfl
    | succ i =>
      rw [List.set_cons_succ, GR.cs_cons, GR.cs_cons, ih i (by simpa using hi)]
      rw [show (i + 1) * 4 = i * 4 + 1 + 1 + 1 + 1 by omega]
      rfl
theorem own_n {α : Type} {K : GR.Kind α} {w : World} {B g n cap : Nat} {l : List α} (h : GR.Own K w B (.slice (some ⟨g, 0, none⟩) n cap) l) : n = l.length := by
  rcases h.2 with ⟨hv, _⟩ | ⟨_, _, _, hv, _⟩
  · cases hv
  · injection hv
end Go.Proofs.Ytljfigikkajlnaa
namespace Go.Proofs.Ytljfigikkajlnaa
open Go.RowKit
set_option linter.unusedVariables false
set_option linter.unusedSimpArgs false
/-- A state's two slices, as they stand in a slice of states. -/
structure StV where
  A : Option Addr
  n : Nat
  c : Nat
  D : Option Addr
  m : Nat
  d : Nat
def StV.u (x : StV) : Value := .slice x.A x.n x.c
def StV.v (x : StV) : Value := .slice x.D x.m x.d
def stK : GR.Kind StV where
  e := 25
  s := 2
  b := 48
  enc := fun x => [.slice x.A x.n x.c, .slice x.D x.m x.d]
  len := fun _ => rfl
  one := fun x u hu => by
    simp only [List.mem_cons, List.not_mem_nil, or_false] at hu
    rcases hu with rfl | rfl <;> rfl
  hs := by omega
  hb := by omega
/-- The rows of states. -/
def inRows (I : List StV) (k : Nat) : Prop := ∃ x ∈ I, rows2 x.u x.v k
/-- States in rows of the call's own, of counts that are no less than 0. -/
def InS (w : World) (B : Nat) (I : List StV) (C : Nat → List Dot × List Sib) : Prop :=
  ∀ i (h : i < I.length), OwnS w B I[i].u I[i].v (C i).1 (C i).2 ∧ (C i).1.length * 16 ≤ 140737488351232 ∧ (C i).2.length * 40 ≤ 140737488351232 ∧ (∀ d ∈ (C i).1, 0 ≤ d.n) ∧ (∀ x ∈ (C i).2, 0 ≤ x.d.n)
section
variable {w w' : World} {B B' : Nat} {I : List StV} {C : Nat → List Dot × List Sib}
theorem InS.below (h : InS w B I C) (hb : Below w.heap.size w w') : InS w' B I C := fun i hi => ⟨(h i hi).1.below hb, (h i hi).2⟩
theorem InS.ty (h : InS w B I C) {k : Nat} (hk : inRows I k) : ∃ cs e f, (e = 41 ∨ e = 67) ∧ w.heap[k]? = some (.cells cs e f) := by
  obtain ⟨x, hx, hk⟩ := hk
  obtain ⟨i, hi, rfl⟩ := List.getElem_of_mem hx
  have := (h i hi).1
  rcases hk with hk | hk
  · rcases this.d.2 with ⟨h0, _⟩ | ⟨g, cap, cur, h0, _, hh, _⟩
    · rw [h0] at hk; cases hk
    · rw [h0] at hk; cases hk; exact ⟨_, _, _, .inl rfl, hh⟩
  · rcases this.s.2 with ⟨h0, _⟩ | ⟨g, cap, cur, h0, _, hh, _⟩
    · rw [h0] at hk; cases hk
    · rw [h0] at hk; cases hk; exact ⟨_, _, _, .inr rfl, hh⟩
theorem InS.blk (h : InS w B I C) {g : Nat} {cs : Array Value} (bg : GR.Blk w g 25 cs) (hc : Chg (inRows I) w w') : GR.Blk w' g 25 cs :=
  blk_chg bg hc fun hr => by
    obtain ⟨cs', e, f, he, hh⟩ := h.ty hr
    unfold GR.Blk at bg
    rw [hh] at bg
    injection bg with bg
    injection bg with _ h2
    rcases he with rfl | rfl
    · exact absurd h2 (by decide)
    · exact absurd h2 (by decide)
theorem own_not {v : Value} {J : List StV} (h : GR.Own stK w B v J) {k : Nat} {cs : Array Value} {e : TypeId} {f : Nat × Nat} (he : e = 41 ∨ e = 67) (hh : w.heap[k]? = some (.cells cs e f)) : v.ownBlock ≠ some k := by
  intro hk
  rcases h.2 with ⟨rfl, _⟩ | ⟨g, cap, cur, rfl, _, h2, _⟩
  · cases hk
  · cases hk
    rw [hh] at h2
    injection h2 with h2
    injection h2 with _ h3
    rcases he with rfl | rfl
    · exact absurd h3 (by decide)
    · exact absurd h3 (by decide)
theorem InS.st {v : Value} {J : List StV} (h : InS w B I C) (k : GR.Own stK w B' v J) (hc : Chg (inRows I) w w') : GR.Own stK w' B' v J :=
  own_chg k hc fun i hi hr => by
    obtain ⟨cs', e, f, he, hh⟩ := h.ty hr
    exact own_not k he hh hi
theorem OwnS.st {u v x : Value} {a : List Dot} {l : List Sib} {J : List StV} (h : OwnS w B u v a l) (k : GR.Own stK w B' x J) (hc : Chg (rows2 u v) w w') : GR.Own stK w' B' x J :=
  own_chg k hc fun i hi hr => by
    rcases hr with hr | hr
    · exact own_ne k h.d (by decide) i hi hr
    · exact own_ne k h.s (by decide) i hi hr
theorem InS.far {u v : Value} {a : List Dot} {l : List Sib} (h : InS w B I C) (k : OwnS w B' u v a l) (ap : ∀ x ∈ I, ApS u v x.u x.v) (hc : Chg (rows2 u v) w w') : InS w' B I C := fun i hi =>
  ⟨(h i hi).1.far k (ap _ (List.getElem_mem hi)).symm hc, (h i hi).2⟩
/-- One of the states is written over. -/
theorem InS.one (h : InS w B I C) (ap : ∀ i j (hi : i < I.length) (hj : j < I.length), i ≠ j → ApS I[i].u I[i].v I[j].u I[j].v) {k : Nat} (hk : k < I.length) {a : List Dot} {l : List Sib} (ho : OwnS w' B I[k].u I[k].v a l) (hc : Chg (rows2 I[k].u I[k].v) w w')
    (ha : a.length * 16 ≤ 140737488351232) (hl : l.length * 40 ≤ 140737488351232) (na : ∀ d ∈ a, 0 ≤ d.n) (nl : ∀ x ∈ l, 0 ≤ x.d.n) : InS w' B I (fun j => if j = k then (a, l) else C j) := fun i hi => by
  by_cases hik : i = k
  · subst hik
    simp only [if_true]
    exact ⟨ho, ha, hl, na, nl⟩
  · simp only [if_neg hik]
    exact ⟨(h i hi).1.far (h k hk).1 (ap i k hi hk hik) hc, (h i hi).2⟩
end
/-- How things stand behind fresh's first loop. -/
structure FS (W1 : World) (B0 : Nat) (u1 v1 u2 v2 u3 v3 vin x : Value) (p : List Dot) (q : List Sib) (I J : List StV) (C : Nat → List Dot × List Sib) (w : World) : Prop where
  o2 : OwnS w B0 u2 v2 p q
  o3 : OwnS w B0 u3 v3 p q
  hI : InS w B0 I C
  hJ : ∀ j (h : j < J.length), OwnS w W1.heap.size J[j].u J[j].v (C j).1 (C j).2
  hin : GR.Own stK w B0 vin I
  hx : GR.Own stK w W1.heap.size x J
  ch : Chg (fun k => rows2 u1 v1 k ∨ inRows I k) W1 w
section
variable {W1 w w' : World} {B0 : Nat} {u1 v1 u2 v2 u3 v3 vin x : Value} {p : List Dot} {q : List Sib} {I J : List StV} {C : Nat → List Dot × List Sib}
theorem FS.below (h : FS W1 B0 u1 v1 u2 v2 u3 v3 vin x p q I J C w) (hb : Below w.heap.size w w') : FS W1 B0 u1 v1 u2 v2 u3 v3 vin x p q I J C w' :=
  ⟨h.o2.below hb, h.o3.below hb, h.hI.below hb, fun j hj => (h.hJ j hj).below hb, h.hin.below hb, h.hx.below hb, h.ch.bl hb⟩
theorem FS.blk (h : FS W1 B0 u1 v1 u2 v2 u3 v3 vin x p q I J C w) {C1 : Nat → List Dot × List Sib} (h1 : OwnS W1 B0 u1 v1 p q) (hI : InS W1 B0 I C1) {g : Nat} {cs : Array Value} (bg : GR.Blk W1 g 25 cs) : GR.Blk w g 25 cs :=
  blk_chg bg h.ch fun hr => by
    rcases hr with (hr | hr) | hr
    · exact GR.own_blk_ne h1.d bg (by decide) hr
    · exact GR.own_blk_ne h1.s bg (by decide) hr
    · obtain ⟨cs', e, f, he, hh⟩ := hI.ty hr
      unfold GR.Blk at bg
      rw [hh] at bg
      injection bg with bg
      injection bg with _ h2
      rcases he with rfl | rfl
      · exact absurd h2 (by decide)
      · exact absurd h2 (by decide)
end
end Go.Proofs.Ytljfigikkajlnaa
