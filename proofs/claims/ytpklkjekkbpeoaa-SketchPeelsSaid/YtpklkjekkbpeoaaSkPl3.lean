/- DERIVED. Sketches, plainly: the difference of two sketches is what the one list has more often, and the other. -/
import Derived.Test.YtpklkjekkbpeoaaSkPl2
namespace Go.Proofs.Ytpklkjekkbpeoaa
set_option linter.unusedVariables false
set_option linter.unusedSimpArgs false

/-- What stands in l more often than in m (each as often). -/
def exc {α : Type} [DecidableEq α] (m : List α) : List α → List α
  | [] => []
  | e :: l => if m.count e < (e :: l).count e then e :: exc m l else exc m l
theorem exc_count {α : Type} [DecidableEq α] (m l : List α) (a : α) : (exc m l).count a = l.count a - m.count a := by
  induction l with
  | nil => simp [exc]
  | cons e l ih =>
    unfold exc
    by_cases he : e = a
    · subst he
      have hc : (e :: l).count e = l.count e + 1 := List.count_cons_self ..
      split
      · rw [List.count_cons_self, ih]; omega
      · rw [ih]; omega
    · have hc : (e :: l).count a = l.count a := by rw [List.count_cons_of_ne]; exact he
      rw [hc]
      split
      · rw [List.count_cons_of_ne (h := he), ih]
      · exact ih
theorem exc_perm {α : Type} [DecidableEq α] (l m : List α) : (l ++ exc l m).Perm (m ++ exc m l) := by
  rw [List.perm_iff_count]
  intro a
  rw [List.count_append, List.count_append, exc_count, exc_count]
  omega
theorem layAll_app (b : BitVec 16) (L : List Cel) (l m : List It) : layAll b L (l ++ m) = layAll b (layAll b L l) m := by simp [layAll]
theorem layAll_comm (b c : BitVec 16) (L : List Cel) (l m : List It) : layAll b (layAll c L l) m = layAll c (layAll b L m) l := by
  induction l generalizing L with
  | nil => rfl
  | cons x l ih => rw [layAll_cons, layAll_cons, ih, layAll_out]
theorem layAll_one (L : List Cel) (m : List It) : layAll 1 (layAll (-1) L m) m = L := by
  have := layAll_back (-1) L m
  rwa [neg_neg16] at this
theorem layAll_inj {A B : List Cel} (m : List It) (h : layAll 1 A m = layAll 1 B m) : A = B := by
  have := congrArg (fun z => layAll (-1) z m) h
  simpa only [layAll_back] using this
theorem neg_lay (n : Nat) (x : It) : negL (oneL n x 1) = oneL n x (-1) := by
  apply List.ext_getElem (by simp [negL, oneL])
  intro i h1 h2
  simp only [negL, oneL, List.getElem_map, List.getElem_range]
  split
  · rfl
  · rfl
theorem negL_add (L M : List Cel) : negL (addL L M) = addL (negL L) (negL M) := by
  apply List.ext_getElem (by simp [negL, addL])
  intro i h1 h2
  simp only [negL, addL, List.getElem_map, List.getElem_zipWith]
  simp only [Cel.neg, Cel.add, BitVec.neg_add, BitVec.sub_eq_add_neg]
theorem negL_length (L : List Cel) : (negL L).length = L.length := by simp [negL]
theorem negL_all (L : List Cel) (m : List It) : negL (layAll 1 L m) = layAll (-1) (negL L) m := by
  induction m generalizing L with
  | nil => rfl
  | cons x m ih => rw [layAll_cons, layAll_cons, ih, layC_add, layC_add, negL_add, neg_lay, negL_length]
theorem negL_zL (n : Nat) : negL (zL n) = zL n := by simp [negL, zL, zc, Cel.neg]
theorem sums_law {α : Type} [DecidableEq α] (I : α → It) (n : Nat) (l m : List α) :
    addL (layAll 1 (zL n) (l.map I)) (negL (layAll 1 (zL n) (m.map I))) = layAll 1 (layAll (-1) (zL n) ((exc l m).reverse.map I)) ((exc m l).reverse.map I) := by
  have e1 : addL (layAll 1 (zL n) (l.map I)) (negL (layAll 1 (zL n) (m.map I))) = layAll (-1) (layAll 1 (zL n) (l.map I)) (m.map I) := by
    rw [negL_all, negL_zL, ← layAll_add _ _ _ _ (by simp)]
    congr 1
    have := addL_zero (layAll 1 (zL n) (l.map I))
    rwa [layAll_length, zL_length] at this
  rw [e1, layAll_perm (((exc l m).reverse_perm).map I), layAll_perm (((exc m l).reverse_perm).map I)]
  refine layAll_inj (m.map I) (layAll_inj ((exc l m).map I) ?_)
  rw [layAll_one, layAll_comm 1 (-1), layAll_comm 1 (-1), layAll_one, ← layAll_app, ← layAll_app, ← List.map_append, ← List.map_append]
  refine layAll_perm (List.Perm.map I ?_) _
  refine (exc_perm l m).trans List.perm_append_comm
end Go.Proofs.Ytpklkjekkbpeoaa
