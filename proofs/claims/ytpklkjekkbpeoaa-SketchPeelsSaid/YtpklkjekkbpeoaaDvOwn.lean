/- DERIVED. Rows of the call's own: apart from one another, left as they were by stores elsewhere. -/
import Derived.Test.YtpklkjekkbpeoaaGRow
import Derived.Deep.QuietTactic
import Derived.BigQuiet
import Derived.Deep.RegionHeld3
import Derived.WalkLawsBesides
import Derived.WalkSpells
import Derived.Lib.Hide
import Derived.Outline
import Derived.RegionCalls
import Derived.Lib.Bytealg
namespace Go.Proofs.Ytpklkjekkbpeoaa
open Go.RowKit
set_option linter.unusedVariables false
set_option linter.unusedSimpArgs false

theorem own_slice {α : Type} {K : GR.Kind α} {w : World} {B : Nat} {v : Value} {l : List α} (h : GR.Own K w B v l) (hb : l.length * K.b ≤ 140737488355328) : ∃ A n c, v = .slice A n c := by
  obtain ⟨A, c, e, _⟩ := h.rd' hb
  exact ⟨A, _, c, e⟩
/-- A store into another block leaves an own row as it was. -/
theorem own_far {α : Type} {K : GR.Kind α} {w : World} {g B : Nat} {t : TypeId} {cs : Array Value} {v : Value} {l : List α} (h : GR.Own K w B v l) (bg : GR.Blk w g t cs) (u : Value) (hne : K.e ≠ t) : GR.Own K (w.setCell ⟨g, 0, none⟩ u) B v l :=
  h.grown (row := some g) ⟨rfl, rfl, rfl, by simp [World.setCell], fun k _ hk => Below.heap_setCell _ _ _ _ (by intro e; subst e; exact hk rfl)⟩ (.inr (GR.own_blk_ne h bg hne))
theorem own_apart {α β : Type} {K : GR.Kind α} {J : GR.Kind β} {w : World} {B B' : Nat} {u v : Value} {l : List α} {m : List β} (h : GR.Own K w B u l) (k : GR.Own J w B' v m) (hne : K.e ≠ J.e) : u.ownBlock = none ∨ u.ownBlock ≠ v.ownBlock := by
  rcases h.2 with ⟨rfl, _⟩ | ⟨g, cap, cur, rfl, _, hh, _⟩
  · exact .inl rfl
  · refine .inr fun e => ?_
    rcases k.2 with ⟨rfl, _⟩ | ⟨g', cap', cur', rfl, _, hh', _⟩
    · simp [Value.ownBlock] at e
    · have : g = g' := by simpa [Value.ownBlock] using e
      subst this
      exact GR.Blk.ne_ (t := K.e) (t' := J.e) hh hh' hne rfl
end Go.Proofs.Ytpklkjekkbpeoaa
