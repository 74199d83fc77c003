/- DERIVED. Rows of the call's own: apart from one another, left as they were by stores elsewhere. -/
import Derived.Test.YtljfigikkajlnaaGRow
import Derived.Deep.QuietTactic
import Derived.BigQuiet
import Derived.Deep.RegionHeld3
import Derived.WalkLawsBesides
import Derived.WalkSpells
import Derived.Lib.Hide
import Derived.Outline
import Derived.RegionCalls
import Derived.Lib.Bytealg
namespace Go.Proofs.Ytljfigikkajlnaa
open Go.RowKit
set_option linter.unusedVariables false
set_option linter.unusedSimpArgs false

theorem own_slice {α : Type} {K : GR.Kind α} {w : World} {B : Nat} {v : Value} {l : List α} (h : GR.Own K w B v l) (hb : l.length * K.b ≤ 140737488355328) : ∃ A n c, v = .slice A n c := by
  obtain ⟨A, c, e, _⟩ := h.rd' hb
  exact ⟨A, _, c, e⟩
/-- A store into another block leaves an own row as it was. -/
theorem own_far {α : Type} {K : GR.Kind α} {w : World} {g B : Nat} {t : TypeId} {cs : Array Value} {v : Value} {l : List α} (h : GR.Own K w B v l) (bg : GR.Blk w g t cs) (u : Value) (hne : K.e ≠ t) : GR.Own K (w.setCell ⟨g, 0, none⟩ u) B v l :=
  h.grown (row := some g) ⟨rfl, rfl, rfl, by simp [World.setCell], fun k _ hk => Below.heap_setCell _ _ _ _ (by intro e; subst e; exact hk rfl)⟩ (.inr (GR.own_blk_ne h bg hne))
theorem own_apart {α β : Type} {K : GR.Kind α} {J : GR.Kind β} {w : World} {B B' : Nat} {u v : Value} {l : List α} {m : List β} (h : GR.Own K w B u l) (k : GR.Own J w B' v m) (hne : K.e ≠ J.e) : u.ownBlock = none ∨ u.ownBlock ≠ v.ownBlock := by
  rcases h.2 with ⟨rfl, _⟩ | ⟨g, cap, cur, rfl, _, hh, _⟩
  · exact .inl rfl
  · refine .inr fun e => ?_
    rcases k.2 with ⟨rfl, _⟩ | ⟨g', cap', cur', rfl, _, hh', _⟩
    · simp [Value.ownBlock] at e
    · have : g = g' := by simpa [Value.ownBlock] using e
      subst this
      exact GR.Blk.ne_ (t := K.e) (t' := J.e) hh hh' hne rfl
/-- What is older than a row grown is as it was (the row apart). -/
theorem own_set2 {α : Type} {K : GR.Kind α} {w : World} {B g : Nat} {u v x : Value} {l : List α} {W : World} {cs : Array Value} (h : GR.Own K w B x l) (bg : GR.Blk W g 25 cs) (hb : Below W.heap.size W w) (hne : K.e ≠ 25 := by decide) :
    GR.Own K ((w.setCell ⟨g, 0, none⟩ u).setCell ⟨g, 1, none⟩ v) B x l := by
  have b1 := bg.below hb bg.lt
  have hs : ∀ (w : World) (i : Nat) (cs : Array Value) (u : Value), GR.Own K w B x l → GR.Blk w g 25 cs → GR.Own K (w.setCell ⟨g, i, none⟩ u) B x l := fun w i cs u h b =>
    h.grown (row := some g) ⟨rfl, rfl, rfl, by simp [World.setCell], fun k _ hk => Below.heap_setCell _ _ _ _ (by intro e; subst e; exact hk rfl)⟩ (.inr (GR.own_blk_ne h b hne))
  exact hs _ 1 _ v (hs _ 0 _ u h b1) (b1.set_ 0 u)
end Go.Proofs.Ytljfigikkajlnaa
