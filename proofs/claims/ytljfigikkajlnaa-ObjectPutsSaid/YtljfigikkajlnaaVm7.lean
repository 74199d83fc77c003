/- DERIVED. The statements' own helpers: fresh. Lists of facts of a world that stay in the worlds above it. Readers of bytes, in plain terms: a number to the base 128, so many bytes, a text; what was read stood there in its own form. The program's Reader: so many bytes, one byte, a number to the base 128, a text, the error, the end. dvv.Decode: the state whose bytes they are. The document's Reader: so many bytes, one byte, a number to the base 128, a text, the error, the end. -/
import Derived.Test.YtljfigikkajlnaaVDvEnc
import Derived.Test.YtljfigikkajlnaaVm10
import Derived.Test.YtljfigikkajlnaaVm11
import Derived.Test.YtljfigikkajlnaaVm4
import Derived.Laws.Bits64b
namespace Go.Proofs.Ytljfigikkajlnaa
open Go.RowKit
set_option linter.unusedVariables false
set_option linter.unusedSimpArgs false
/-- A state's two slices, as they stand in a slice of states. -/
structure StV where
  A : Option Addr
  n : Nat
  c : Nat
  D : Option Addr
  m : Nat
  d : Nat
def StV.u (x : StV) : Value := .slice x.A x.n x.c
def StV.v (x : StV) : Value := .slice x.D x.m x.d
def stK : GR.Kind StV where
  e := 25
  s := 2
  b := 48
  enc := fun x => [.slice x.A x.n x.c, .slice x.D x.m x.d]
  len := fun _ => rfl
  one := fun x u hu => by
    simp only [List.mem_cons, List.not_mem_nil, or_false] at hu
    rcases hu with rfl | rfl <;> rfl
  hs := by omega
  hb := by omega
/-- The rows of states. -/
def inRows (I : List StV) (k : Nat) : Prop := ∃ x ∈ I, rows2 x.u x.v k
/-- States in rows of the call's own, of counts that are no less than 0. -/
def InS (w : World) (B : Nat) (I : List StV) (C : Nat → List Dot × List Sib) : Prop :=
  ∀ i (h : i < I.length), OwnS w B I[i].u I[i].v (C i).1 (C i).2 ∧ (C i).1.length * 16 ≤ 140737488351232 ∧ (C i).2.length * 40 ≤ 140737488351232 ∧ (∀ d ∈ (C i).1, 0 ≤ d.n) ∧ (∀ x ∈ (C i).2, 0 ≤ x.d.n)
section
variable {w w' : World} {B B' : Nat} {I : List StV} {C : Nat → List Dot × List Sib}
theorem InS.below (h : InS w B I C) (hb : Below w.heap.size w w') : InS w' B I C := fun i hi => ⟨(h i hi).1.below hb, (h i hi).2⟩
theorem InS.ty (h : InS w B I C) {k : Nat} (hk : inRows I k) : ∃ cs e f, (e = 41 ∨ e = 67) ∧ w.heap[k]? = some (.cells cs e f) := by
  obtain ⟨x, hx, hk⟩ := hk
  obtain ⟨i, hi, rfl⟩ := List.getElem_of_mem hx
  have := (h i hi).1
  rcases hk with hk | hk
  · rcases this.d.2 with ⟨h0, _⟩ | ⟨g, cap, cur, h0, _, hh, _⟩
    · rw [h0] at hk; cases hk
    · rw [h0] at hk; cases hk; exact ⟨_, _, _, .inl rfl, hh⟩
  · rcases this.s.2 with ⟨h0, _⟩ | ⟨g, cap, cur, h0, _, hh, _⟩
    · rw [h0] at hk; cases hk
    · rw [h0] at hk; cases hk; exact ⟨_, _, _, .inr rfl, hh⟩
theorem InS.blk (h : InS w B I C) {g : Nat} {cs : Array Value} (bg : GR.Blk w g 25 cs) (hc : Chg (inRows I) w w') : GR.Blk w' g 25 cs :=
  blk_chg bg hc fun hr => by
    obtain ⟨cs', e, f, he, hh⟩ := h.ty hr
    unfold GR.Blk at bg
    rw [hh] at bg
    injection bg with bg
    injection bg with _ h2
    rcases he with rfl | rfl
    · exact absurd h2 (by decide)
    · exact absurd h2 (by decide)
theorem own_not {v : Value} {J : List StV} (h : GR.Own stK w B v J) {k : Nat} {cs : Array Value} {e : TypeId} {f : Nat × Nat} (he : e = 41 ∨ e = 67) (hh : w.heap[k]? = some (.cells cs e f)) : v.ownBlock ≠ some k := by
  intro hk
  rcases h.2 with ⟨rfl, _⟩ | ⟨g, cap, cur, rfl, _, h2, _⟩
  · cases hk
  · cases hk
    rw [hh] at h2
    injection h2 with h2
    injection h2 with _ h3
    rcases he with rfl | rfl
    · exact absurd h3 (by decide)
    · exact absurd h3 (by decide)
theorem InS.st {v : Value} {J : List StV} (h : InS w B I C) (k : GR.Own stK w B' v J) (hc : Chg (inRows I) w w') : GR.Own stK w' B' v J :=
  own_chg k hc fun i hi hr => by
    obtain ⟨cs', e, f, he, hh⟩ := h.ty hr
    exact own_not k he hh hi
theorem OwnS.st {u v x : Value} {a : List Dot} {l : List Sib} {J : List StV} (h : OwnS w B u v a l) (k : GR.Own stK w B' x J) (hc : Chg (rows2 u v) w w') : GR.Own stK w' B' x J :=
  own_chg k hc fun i hi hr => by
    rcases hr with hr | hr
    · exact own_ne k h.d (by decide) i hi hr
    · exact own_ne k h.s (by decide) i hi hr
theorem InS.far {u v : Value} {a : List Dot} {l : List Sib} (h : InS w B I C) (k : OwnS w B' u v a l) (ap : ∀ x ∈ I, ApS u v x.u x.v) (hc : Chg (rows2 u v) w w') : InS w' B I C := fun i hi =>
  ⟨(h i hi).1.far k (ap _ (List.getElem_mem hi)).symm hc, (h i hi).2⟩
/-- One of the states is written over. -/
theorem InS.one (h : InS w B I C) (ap : ∀ i j (hi : i < I.length) (hj : j < I.length), i ≠ j → ApS I[i].u I[i].v I[j].u I[j].v) {k : Nat} (hk : k < I.length) {a : List Dot} {l : List Sib} (ho : OwnS w' B I[k].u I[k].v a l) (hc : Chg (rows2 I[k].u I[k].v) w w')
    (ha : a.length * 16 ≤ 140737488351232) (hl : l.length * 40 ≤ 140737488351232) (na : ∀ d ∈ a, 0 ≤ d.n) (nl : ∀ x ∈ l, 0 ≤ x.d.n) : InS w' B I (fun j => if j = k then (a, l) else C j) := fun i hi => by
  by_cases hik : i = k
  · subst hik
    simp only [if_true]
    exact ⟨ho, ha, hl, na, nl⟩
  · simp only [if_neg hik]
    exact ⟨(h i hi).1.far (h k hk).1 (ap i k hi hk hik) hc, (h i hi).2⟩
end
/-- How things stand behind fresh's first loop. -/
structure FS (W1 : World) (B0 : Nat) (u1 v1 u2 v2 u3 v3 vin x : Value) (p : List Dot) (q : List Sib) (I J : List StV) (C : Nat → List Dot × List Sib) (w : World) : Prop where
  o2 : OwnS w B0 u2 v2 p q
  o3 : OwnS w B0 u3 v3 p q
  hI : InS w B0 I C
  hJ : ∀ j (h : j < J.length), OwnS w W1.heap.size J[j].u J[j].v (C j).1 (C j).2
  hin : GR.Own stK w B0 vin I
  hx : GR.Own stK w W1.heap.size x J
  ch : Chg (fun k => rows2 u1 v1 k ∨ inRows I k) W1 w
section
variable {W1 w w' : World} {B0 : Nat} {u1 v1 u2 v2 u3 v3 vin x : Value} {p : List Dot} {q : List Sib} {I J : List StV} {C : Nat → List Dot × List Sib}
theorem FS.below (h : FS W1 B0 u1 v1 u2 v2 u3 v3 vin x p q I J C w) (hb : Below w.heap.size w w') : FS W1 B0 u1 v1 u2 v2 u3 v3 vin x p q I J C w' :=
  ⟨h.o2.below hb, h.o3.below hb, h.hI.below hb, fun j hj => (h.hJ j hj).below hb, h.hin.below hb, h.hx.below hb, h.ch.bl hb⟩
theorem FS.blk (h : FS W1 B0 u1 v1 u2 v2 u3 v3 vin x p q I J C w) {C1 : Nat → List Dot × List Sib} (h1 : OwnS W1 B0 u1 v1 p q) (hI : InS W1 B0 I C1) {g : Nat} {cs : Array Value} (bg : GR.Blk W1 g 25 cs) : GR.Blk w g 25 cs :=
  blk_chg bg h.ch fun hr => by
    rcases hr with (hr | hr) | hr
    · exact GR.own_blk_ne h1.d bg (by decide) hr
    · exact GR.own_blk_ne h1.s bg (by decide) hr
    · obtain ⟨cs', e, f, he, hh⟩ := hI.ty hr
      unfold GR.Blk at bg
      rw [hh] at bg
      injection bg with bg
      injection bg with _ h2
      rcases he with rfl | rfl
      · exact absurd h2 (by decide)
      · exact absurd h2 (by decide)
end
end Go.Proofs.Ytljfigikkajlnaa
namespace Go.Proofs.Ytljfigikkajlnaa
open Go.RowKit
set_option linter.unusedVariables false
set_option linter.unusedSimpArgs false
/-- A fact of a world that stays in each world above. -/
structure BP where
  p : World → Prop
  k : ∀ w w', Below w.heap.size w w' → p w → p w'
def bB (g : Nat) (t : TypeId) (cs : Array Value) : BP := ⟨fun w => GR.Blk w g t cs, fun _ _ hb h => h.below hb h.lt⟩
def bO (B : Nat) (u v : Value) (a : List Dot) (l : List Sib) : BP := ⟨fun w => OwnS w B u v a l, fun _ _ hb h => h.below hb⟩
def bR {α : Type} (K : GR.Kind α) (A : Option Addr) (l : List α) : BP := ⟨fun w => GR.Rd K w A l, fun _ _ hb h => h.below hb⟩
def bW {α : Type} (K : GR.Kind α) (B : Nat) (v : Value) (l : List α) : BP := ⟨fun w => GR.Own K w B v l, fun _ _ hb h => h.below hb⟩
def HS (w : World) (L : List BP) : Prop := ∀ (i : Nat) (b : BP), L[i]? = some b → b.p w
theorem HS.nil (w : World) : HS w [] := fun i b h => by simp at h
theorem HS.add {w : World} {L : List BP} (h : HS w L) (b : BP) (hb : b.p w) : HS w (b :: L) := fun i c hc => by
  cases i with
  | zero => simp at hc; subst hc; exact hb
  | succ i => exact h i c (by simpa using hc)
theorem HS.below {w w' : World} {L : List BP} (h : HS w L) (hb : Below w.heap.size w w') : HS w' L := fun i b hi => b.k _ _ hb (h i b hi)
theorem HS.blk {w : World} {L : List BP} (h : HS w L) (i : Nat) {g : Nat} {t : TypeId} {cs : Array Value} (e : L[i]? = some (bB g t cs)) : GR.Blk w g t cs := h i _ e
theorem HS.own {w : World} {L : List BP} (h : HS w L) (i : Nat) {B : Nat} {u v : Value} {a : List Dot} {l : List Sib} (e : L[i]? = some (bO B u v a l)) : OwnS w B u v a l := h i _ e
theorem HS.rd {w : World} {L : List BP} {α : Type} {K : GR.Kind α} (h : HS w L) (i : Nat) {A : Option Addr} {l : List α} (e : L[i]? = some (bR K A l)) : GR.Rd K w A l := h i _ e
theorem HS.ow {w : World} {L : List BP} {α : Type} {K : GR.Kind α} (h : HS w L) (i : Nat) {B : Nat} {v : Value} {l : List α} (e : L[i]? = some (bW K B v l)) : GR.Own K w B v l := h i _ e
theorem HS.addB {w : World} {L : List BP} (h : HS w L) {g : Nat} {t : TypeId} {cs : Array Value} (hb : GR.Blk w g t cs) : HS w (bB g t cs :: L) := h.add (bB g t cs) hb
theorem HS.addO {w : World} {L : List BP} (h : HS w L) {B : Nat} {u v : Value} {a : List Dot} {l : List Sib} (hb : OwnS w B u v a l) : HS w (bO B u v a l :: L) := h.add (bO B u v a l) hb
theorem HS.addR {w : World} {L : List BP} {α : Type} {K : GR.Kind α} (h : HS w L) {A : Option Addr} {l : List α} (hb : GR.Rd K w A l) : HS w (bR K A l :: L) := h.add (bR K A l) hb
theorem HS.addW {w : World} {L : List BP} {α : Type} {K : GR.Kind α} (h : HS w L) {B : Nat} {v : Value} {l : List α} (hb : GR.Own K w B v l) : HS w (bW K B v l :: L) := h.add (bW K B v l) hb
theorem own_n' {α : Type} {K : GR.Kind α} {w : World} {B n c : Nat} {A : Option Addr} {l : List α} (h : GR.Own K w B (.slice A n c) l) : n = l.length := by
  rcases h.2 with ⟨hv, h0⟩ | ⟨_, _, _, hv, _⟩
  · injection hv with _ h1 _; omega
  · injection hv
theorem HS.drop {w : World} {L : List BP} {b : BP} (h : HS w (b :: L)) : HS w L := fun i c hc => h (i + 1) c (by simpa using hc)
end Go.Proofs.Ytljfigikkajlnaa
namespace Go.Proofs.Ytljfigikkajlnaa
open Go.RowKit Go.Lib
set_option linter.unusedVariables false
set_option linter.unusedSimpArgs false
/-- A reader's place and error. -/
structure RS where
  n : Nat
  e : Int
end Go.Proofs.Ytljfigikkajlnaa
namespace Go.Proofs.Ytljfigikkajlnaa
open Go.RowKit Go.Lib
set_option linter.unusedVariables false
set_option linter.unusedSimpArgs false
/-- A Reader in block g: the bytes b, the place and the error. -/
def Rdr (w : World) (g : Nat) (b : ByteArray) (s : RS) : Prop := GR.Blk w g 121 #[.string b, .int .i64 s.n, .int .i64 s.e] ∧ s.n ≤ b.data.toList.length
theorem Rdr.below {w w' : World} {g : Nat} {b : ByteArray} {s : RS} (h : Rdr w g b s) (hb : Below w.heap.size w w') : Rdr w' g b s := ⟨h.1.below hb h.1.lt, h.2⟩
theorem grown_set {w : World} {g : Nat} (i : Nat) (u : Value) : w.grownBy (w.setCell ⟨g, i, none⟩ u) (some g) :=
  ⟨rfl, rfl, rfl, by simp [World.setCell], fun k _ hk => Below.heap_setCell _ _ _ _ (by intro e; subst e; exact hk rfl)⟩
end Go.Proofs.Ytljfigikkajlnaa
namespace Go.Proofs.Ytljfigikkajlnaa
open Go.RowKit Go.Lib
set_option linter.unusedVariables false
set_option linter.unusedSimpArgs false
theorem Rdr.far {w : World} {g : Nat} {b : ByteArray} {s : RS} {p : Addr} (h : Rdr w g b s) (hp : g ≠ p.block) (u : Value) : Rdr (w.setCell p u) g b s := ⟨h.1.far hp u, h.2⟩
/-- What stands while a state is read. -/
structure DI (w0 w : World) (R g S : Nat) (b : ByteArray) (st : RS) (v vs : Value) (a : List Dot) (l : List Sib) : Prop where
  r : GR.Blk w R 25 #[.slice none 0 0, .slice none 0 0]
  s : GR.Blk w S 25 #[v, vs]
  rd : Rdr w g b st
  d : GR.Own dotK w w0.heap.size v a
  l : GR.Own sibK w w0.heap.size vs l
  ne : R < S
  lg : w0.heap.size ≤ g
  lr : w0.heap.size ≤ R
  bl : Below w0.heap.size w0 w
theorem DI.put {w0 w w' : World} {R g S : Nat} {b : ByteArray} {st : RS} {v vs v' : Value} {a : List Dot} {l l' : List Sib} (h : DI w0 w R g S b st v vs a l) (ho : GR.Own sibK w' w0.heap.size v' l') (hg : w.grownBy w' vs.ownBlock) : DI w0 (w'.setCell ⟨S, 1, none⟩ v') R g S b st v v' a l' := by
  have r1 := h.r.grown hg (fun e => GR.own_blk_ne h.l h.r (by decide) e.symm)
  have s1 := h.s.grown hg (fun e => GR.own_blk_ne h.l h.s (by decide) e.symm)
  have d1 := h.d.grown hg (own_apart h.d h.l (by decide))
  have g1 : Rdr w' g b st := ⟨h.rd.1.grown hg (fun e => GR.own_blk_ne h.l h.rd.1 (by decide) e.symm), h.rd.2⟩
  exact ⟨r1.far (show R ≠ S from Nat.ne_of_lt h.ne) _, s1.set_ 1 _, g1.far (show g ≠ S from fun e => h.rd.1.ne_ h.s (by decide) e) _,
    own_farI d1 s1 1 _ (by decide), own_farI ho s1 1 _ (by decide), h.ne, h.lg, h.lr,
    ((Below.grown h.bl hg h.bl.size (fun k hk => (h.l.lt k hk).1)).setCell (p := ⟨S, 1, none⟩) (Nat.le_trans h.lr (Nat.le_of_lt h.ne)) v')⟩
end Go.Proofs.Ytljfigikkajlnaa
namespace Go.Proofs.Ytljfigikkajlnaa
open Go.RowKit Go.Lib
set_option linter.unusedVariables false
set_option linter.unusedSimpArgs false
/-- The document's Reader in block g. -/
def Rdd (w : World) (g : Nat) (b : ByteArray) (s : RS) : Prop := GR.Blk w g 116 #[.string b, .int .i64 s.n, .int .i64 s.e] ∧ s.n ≤ b.data.toList.length
theorem Rdd.below {w w' : World} {g : Nat} {b : ByteArray} {s : RS} (h : Rdd w g b s) (hb : Below w.heap.size w w') : Rdd w' g b s := ⟨h.1.below hb h.1.lt, h.2⟩
theorem Rdd.drewN {w : World} {g : Nat} {b : ByteArray} {s : RS} (h : Rdd w g b s) (n : Nat) : Rdd (w.drewN n) g b s := ⟨h.1.drewN n, h.2⟩
end Go.Proofs.Ytljfigikkajlnaa
