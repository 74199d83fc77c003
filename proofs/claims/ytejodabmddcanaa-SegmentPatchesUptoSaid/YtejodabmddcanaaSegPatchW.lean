/- DERIVED. SegmentPatches: what the walk leans on. -/
import Derived.Test.YtejodabmddcanaaSegHas
import Derived.Test.YtejodabmddcanaaSegAwake
import Derived.Test.YtejodabmddcanaaSegWalksWalk
import Derived.Test.YtejodabmddcanaaSegTakeS
import Derived.Test.YtejodabmddcanaaSegPutU
namespace Go.Proofs.Ytejodabmddcanaa
open Go.RowKit

theorem has_is (A : Option Addr) (c : Nat) (l : List Ent) (key s : ByteArray) (w : World) (hr : Rd w A l) (h : hasK l key = s) :
    Calls Try.prog 42 #[.slice A l.length c, .string key] w fun e w' => e = .returned (.string s) ∧ w = w' := by
  subst h
  exact has_any A c l key w hr
theorem Own.rdz {w : World} {B : Nat} {v : Value} {l : List Ent} (h : Own w B v l) (hb : l.length ≤ 4398046511104) : ∃ A c, v = .slice A l.length c ∧ l.length ≤ c ∧ (A = none → c = 0) ∧ Rd w A l := by
  rcases h.2 with ⟨rfl, h0⟩ | ⟨g, cap, cur, rfl, _, _, hc, _⟩
  · refine ⟨none, 0, by rw [h0], by omega, fun _ => rfl, ?_⟩
    exact List.eq_nil_of_length_eq_zero h0 ▸ Rd.nil _ _
  · exact ⟨_, cap, rfl, hc, (fun h => by cases h), (h.rd hb).2⟩
theorem told_leq {a b : List Ent} {ds : List Dif} (h : Told a b ds) (i j : Nat) (hi : i < ds.length) (hj : j < ds.length) (hij : i < j) :
    (Op.bytesLess ds[j].key.toList ds[i].key.toList || ds[j].key.toList == ds[i].key.toList) = false := by
  have h1 := List.pairwise_iff_getElem.1 h.1 i j hi hj hij
  have h2 : leqB ds[j].key ds[i].key = false := by rw [leqB_eq, h1]; rfl
  exact h2
theorem runs_next (wd : Nat) (h1 : 1 ≤ wd) (h2 : wd ≤ 32) (X : List Ent) (l : List Dif) (b : List Ent) (d : Dif) (ds : List Dif) (hl : l = d :: ds) (h : Runs wd 2097152 X l b) :
    (d.right = em → takB X d.key = true ∧ takA X d.key = stepP X d) ∧ (d.right ≠ em → putE X ⟨d.key, d.right⟩ = 0 ∧ putA X ⟨d.key, d.right⟩ = stepP X d) ∧ Runs wd 2097152 (stepP X d) ds b ∧ (stepP X d).length ≤ 2097152 := by
  subst hl
  cases h with
  | cons hg hN ht hp hr =>
    have hL := list_of_good hg h1 h2
    refine ⟨fun h => ?_, fun h => ?_, hr, hr.good.2⟩
    · have hb : takB X d.key = true := by simp [takB, hL, ht h]
      exact ⟨hb, by simp [takA, hb, stepP, h]⟩
    · have hx : Good wd [(⟨d.key, d.right⟩ : Ent)] := ⟨List.pairwise_singleton _ _, fun e he => by rw [List.mem_singleton] at he; subst he; exact ⟨(hp h).2, (hp h).1⟩⟩
      have hb : badP X ⟨d.key, d.right⟩ = false := by
        have hs : sumUnlike X ⟨d.key, d.right⟩ = false := by
          cases X with
          | nil => rfl
          | cons e X =>
            have := (hg.2 e (by simp)).2
            have := (hp h).1
            simp [sumUnlike]; omega
        simp [badP, hL, list_of_good hx h1 h2, hs]
      exact ⟨by simp [putE, hb], by simp [putA, hb, stepP, h]⟩
end Go.Proofs.Ytejodabmddcanaa
