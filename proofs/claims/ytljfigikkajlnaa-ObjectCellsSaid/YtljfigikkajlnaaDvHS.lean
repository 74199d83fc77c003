/- DERIVED. Lists of facts of a world that stay in the worlds above it. -/
import Derived.Test.YtljfigikkajlnaaDvFresh
namespace Go.Proofs.Ytljfigikkajlnaa
open Go.RowKit
set_option linter.unusedVariables false
set_option linter.unusedSimpArgs false

/-- A fact of a world that stays in each world above. -/
structure BP where
  p : World → Prop
  k : ∀ w w', Below w.heap.size w w' → p w → p w'
def bB (g : Nat) (t : TypeId) (cs : Array Value) : BP := ⟨fun w => GR.Blk w g t cs, fun _ _ hb h => h.below hb h.lt⟩
def bO (B : Nat) (u v : Value) (a : List Dot) (l : List Sib) : BP := ⟨fun w => OwnS w B u v a l, fun _ _ hb h => h.below hb⟩
def bR {α : Type} (K : GR.Kind α) (A : Option Addr) (l : List α) : BP := ⟨fun w => GR.Rd K w A l, fun _ _ hb h => h.below hb⟩
def bW {α : Type} (K : GR.Kind α) (B : Nat) (v : Value) (l : List α) : BP := ⟨fun w => GR.Own K w B v l, fun _ _ hb h => h.below hb⟩
def bL (n : Nat) : BP := ⟨fun w => n ≤ w.heap.size, fun _ _ hb h => Nat.le_trans h hb.size⟩
def HS (w : World) (L : List BP) : Prop := ∀ (i : Nat) (b : BP), L[i]? = some b → b.p w
theorem HS.nil (w : World) : HS w [] := fun i b h => by simp at h
theorem HS.add {w : World} {L : List BP} (h : HS w L) (b : BP) (hb : b.p w) : HS w (b :: L) := fun i c hc => by
  cases i with
  | zero => simp at hc; subst hc; exact hb
  | succ i => exact h i c (by simpa using hc)
theorem HS.below {w w' : World} {L : List BP} (h : HS w L) (hb : Below w.heap.size w w') : HS w' L := fun i b hi => b.k _ _ hb (h i b hi)
theorem HS.blk {w : World} {L : List BP} (h : HS w L) (i : Nat) {g : Nat} {t : TypeId} {cs : Array Value} (e : L[i]? = some (bB g t cs)) : GR.Blk w g t cs := h i _ e
theorem HS.own {w : World} {L : List BP} (h : HS w L) (i : Nat) {B : Nat} {u v : Value} {a : List Dot} {l : List Sib} (e : L[i]? = some (bO B u v a l)) : OwnS w B u v a l := h i _ e
theorem HS.rd {w : World} {L : List BP} {α : Type} {K : GR.Kind α} (h : HS w L) (i : Nat) {A : Option Addr} {l : List α} (e : L[i]? = some (bR K A l)) : GR.Rd K w A l := h i _ e
theorem HS.ow {w : World} {L : List BP} {α : Type} {K : GR.Kind α} (h : HS w L) (i : Nat) {B : Nat} {v : Value} {l : List α} (e : L[i]? = some (bW K B v l)) : GR.Own K w B v l := h i _ e
theorem HS.le {w : World} {L : List BP} (h : HS w L) (i : Nat) {n : Nat} (e : L[i]? = some (bL n)) : n ≤ w.heap.size := h i _ e
theorem HS.addB {w : World} {L : List BP} (h : HS w L) {g : Nat} {t : TypeId} {cs : Array Value} (hb : GR.Blk w g t cs) : HS w (bB g t cs :: L) := h.add (bB g t cs) hb
theorem HS.addO {w : World} {L : List BP} (h : HS w L) {B : Nat} {u v : Value} {a : List Dot} {l : List Sib} (hb : OwnS w B u v a l) : HS w (bO B u v a l :: L) := h.add (bO B u v a l) hb
theorem HS.addR {w : World} {L : List BP} {α : Type} {K : GR.Kind α} (h : HS w L) {A : Option Addr} {l : List α} (hb : GR.Rd K w A l) : HS w (bR K A l :: L) := h.add (bR K A l) hb
theorem HS.addW {w : World} {L : List BP} {α : Type} {K : GR.Kind α} (h : HS w L) {B : Nat} {v : Value} {l : List α} (hb : GR.Own K w B v l) : HS w (bW K B v l :: L) := h.add (bW K B v l) hb
theorem HS.addL {w : World} {L : List BP} (h : HS w L) {n : Nat} (hb : n ≤ w.heap.size) : HS w (bL n :: L) := h.add (bL n) hb
theorem own_n' {α : Type} {K : GR.Kind α} {w : World} {B n c : Nat} {A : Option Addr} {l : List α} (h : GR.Own K w B (.slice A n c) l) : n = l.length := by
  rcases h.2 with ⟨hv, h0⟩ | ⟨_, _, _, hv, _⟩
  · injection hv with _ h1 _; omega
  · injection hv
theorem HS.drop {w : World} {L : List BP} {b : BP} (h : HS w (b :: L)) : HS w L := fun i c hc => h (i + 1) c (by simpa using hc)
/-- What fresh leaves as it was: a state's own block. -/
theorem blk_fresh {w w' : World} {B B' : Nat} {u v : Value} {p : List Dot} {q : List Sib} {I : List StV} {C : Nat → List Dot × List Sib} (h1 : OwnS w B u v p q) (hI : InS w B' I C) {g : Nat} {cs : Array Value} (bg : GR.Blk w g 25 cs) (hc : Chg (fun k => rows2 u v k ∨ inRows I k) w w') : GR.Blk w' g 25 cs :=
  blk_chg bg hc fun hr => by
    rcases hr with (hr | hr) | hr
    · exact GR.own_blk_ne h1.d bg (by decide) hr
    · exact GR.own_blk_ne h1.s bg (by decide) hr
    · obtain ⟨cs', e, f, he, hh⟩ := hI.ty hr
      unfold GR.Blk at bg
      rw [hh] at bg
      injection bg with bg
      injection bg with _ h2
      rcases he with rfl | rfl
      · exact absurd h2 (by decide)
      · exact absurd h2 (by decide)
theorem blk_new {w w' : World} {t : TypeId} {cs : Array Value} {H : Nat} (h : w.heap.size = H) (hb : Below (w.alloc (.cells cs t)).heap.size (w.alloc (.cells cs t)) w') : GR.Blk w' H t cs := (new_at w t cs h).below hb (new_at w t cs h).lt
theorem blk_newD {w w' : World} {t : TypeId} {cs : Array Value} {H : Nat} (h : w.heap.size = H) (hb : Below (w.alloc (.cells cs t)).drew.heap.size (w.alloc (.cells cs t)).drew w') : GR.Blk w' H t cs := (new_at w t cs h).drew.below hb (new_at w t cs h).drew.lt
theorem st_put {w : World} {B g : Nat} {x y u v p q : Value} {a : List Dot} {l : List Sib} (h : OwnS w B x y a l) (bg : GR.Blk w g 25 #[p, q]) :
    OwnS ((w.setCell ⟨g, 0, none⟩ u).setCell ⟨g, 1, none⟩ v) B x y a l ∧ GR.Blk ((w.setCell ⟨g, 0, none⟩ u).setCell ⟨g, 1, none⟩ v) g 25 #[u, v] :=
  ⟨⟨own_farI (own_farI h.d bg 0 u (by decide)) (bg.set_ 0 u) 1 v (by decide), own_farI (own_farI h.s bg 0 u (by decide)) (bg.set_ 0 u) 1 v (by decide)⟩, (bg.set_ 0 u).set_ 1 v⟩
/-- Two slices of states in a literal. -/
theorem lit2 (w : World) (B : Nat) (hB : B ≤ w.heap.size) (x y : StV) : GR.Own stK (w.alloc (.cells #[.slice x.A x.n x.c, .slice x.D x.m x.d, .slice y.A y.n y.c, .slice y.D y.m y.d] 25)) B (.slice (some ⟨w.heap.size, 0, none⟩) 2 2) [x, y] := by
  have := World.ownsRow_lit (base := B) (e := stK.e) (size := stK.s) w #[.slice x.A x.n x.c, .slice x.D x.m x.d, .slice y.A y.n y.c, .slice y.D y.m y.d] 2 hB (by simp [maxLen]) rfl
  exact this
end Go.Proofs.Ytljfigikkajlnaa
