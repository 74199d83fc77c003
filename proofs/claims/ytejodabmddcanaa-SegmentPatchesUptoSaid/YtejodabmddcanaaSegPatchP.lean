/- DERIVED. A list to which its differences are put becomes the other list: the plain law. -/
import Derived.Test.YtejodabmddcanaaSegDif
import Derived.Test.YtejodabmddcanaaSegPutG
import Derived.Test.YtejodabmddcanaaSegTakeR
namespace Go.Proofs.Ytejodabmddcanaa
open Go.RowKit

/-- Entries that rise, all sums of one width, all keys of a key's length. -/
def Good (wd : Nat) (l : List Ent) : Prop := l.Pairwise (fun a b => ltK a.key b.key = true) ∧ ∀ e ∈ l, keyB e.key = true ∧ e.sum.size = wd
theorem pw_of_rises {l : List Ent} (h : Rises l) : l.Pairwise (fun a b => ltK a.key b.key = true) :=
  List.pairwise_iff_getElem.2 fun i j hi hj hij => h i j hi hj hij
theorem rises_of_pw {l : List Ent} (h : l.Pairwise (fun a b => ltK a.key b.key = true)) : Rises l := fun i j hi hj hij => List.pairwise_iff_getElem.1 h i j hi hj hij
theorem good_of_list {l : List Ent} (h : listB l = true) (hn : 0 < l.length) : Good l[0].sum.size l ∧ 1 ≤ l[0].sum.size ∧ l[0].sum.size ≤ 32 := by
  cases l with
  | nil => exact absurd hn (by simp)
  | cons e l =>
    have hv := ok_of_valid (l := e :: l) (wd := (e.sum.size : Int)) h
    refine ⟨⟨pw_of_rises (rises_of_list h), fun x hx => ?_⟩, ?_, ?_⟩
    · obtain ⟨i, hi, rfl⟩ := List.getElem_of_mem hx
      have h1 := hv.1 i hi
      simp only [okAt, List.getElem?_eq_getElem hi, Bool.and_eq_true, beq_iff_eq] at h1
      exact ⟨h1.1, by have := h1.2.1; simp only [List.getElem_cons_zero]; omega⟩
    · have := hv.2.1; simp only [List.getElem_cons_zero]; omega
    · have := hv.2.2; simp only [List.getElem_cons_zero]; omega
theorem list_of_good {wd : Nat} {l : List Ent} (h : Good wd l) (h1 : 1 ≤ wd) (h2 : wd ≤ 32) : listB l = true := by
  cases l with
  | nil => rfl
  | cons e l =>
    have hs : e.sum.size = wd := (h.2 e (by simp)).2
    have ho : okTo (e :: l) (e.sum.size : Int) (e :: l).length := by
      intro i hi
      have hm := h.2 _ (List.getElem_mem hi)
      have hk : leqB (e :: l)[i].key (prevK (e :: l) i) = false := by
        cases i with
        | zero => exact leqB_empty ((keyB_iff _).1 hm.1).1
        | succ j =>
          have hj : j < (e :: l).length := by omega
          simp only [prevK, List.getElem?_eq_getElem hj, Option.map_some, Option.getD_some]
          rw [leqB_eq, (rises_of_pw h.1) j (j + 1) hj hi (by omega)]; rfl
      simp only [okAt, List.getElem?_eq_getElem hi, Bool.and_eq_true, beq_iff_eq, hk, Bool.not_false, and_true]
      exact ⟨hm.1, by rw [hm.2, hs]⟩
    show validB (e :: l) (e.sum.size : Int) = true
    rw [validB_of ho]
    simp only [Bool.and_eq_true, decide_eq_true_eq]
    omega
theorem Good.mid {wd : Nat} {p q : List Ent} {x : Ent} (h : Good wd (p ++ x :: q)) : Good wd (p ++ q) :=
  ⟨h.1.sublist (by simp), fun e he => h.2 e (by simp at he ⊢; rcases he with he | he <;> simp [he])⟩

theorem cut_mid {wd : Nat} {p q : List Ent} {k : ByteArray} (hp : ∀ e ∈ p, ltK e.key k = true) (hq : ∀ e ∈ q.head?, ltK e.key k = false) (_h : Good wd (p ++ q)) : cut (p ++ q) k = p.length := by
  refine cut_of (by simp) (fun j hj hlt => ?_) (fun h => ?_)
  · rw [List.getElem_append_left hlt]; exact hp _ (List.getElem_mem _)
  · cases q with
    | nil => simp at h
    | cons y q => rw [List.getElem_append_right (Nat.le_refl _)]; simp only [Nat.sub_self, List.getElem_cons_zero]; exact hq y (by simp)
theorem there_mid {p q : List Ent} {k : ByteArray} (hc : cut (p ++ q) k = p.length) : there (p ++ q) k = match q.head? with | none => false | some e => decide (e.key = k) := by
  unfold there
  rw [hc, List.getElem?_append_right (Nat.le_refl _), Nat.sub_self]
  cases q <;> rfl

/-- One difference is put to a list. -/
def stepP (X : List Ent) (d : Dif) : List Ent := if d.right = em then takeL X d.key else putL X ⟨d.key, d.right⟩
/-- The differences can be put to a list, one behind the other; what comes of it. -/
inductive Runs (wd N : Nat) : List Ent → List Dif → List Ent → Prop
  | nil {X : List Ent} : Good wd X → X.length ≤ N → Runs wd N X [] X
  | cons {X Y : List Ent} {d : Dif} {ds : List Dif} : Good wd X → X.length ≤ N → (d.right = em → there X d.key = true) → (d.right ≠ em → d.right.size = wd ∧ keyB d.key = true) → Runs wd N (stepP X d) ds Y → Runs wd N X (d :: ds) Y
theorem Runs.good {wd N : Nat} {X Y : List Ent} {ds : List Dif} (h : Runs wd N X ds Y) : Good wd X ∧ X.length ≤ N := by cases h <;> exact ⟨by assumption, by assumption⟩

theorem em_size : em.size = 0 := rfl
theorem ne_em {s : ByteArray} (h : 1 ≤ s.size) : s ≠ em := fun e => by subst e; rw [em_size] at h; omega

theorem runs_dif (wd N : Nat) (h1 : 1 ≤ wd) : ∀ (a b p : List Ent), Good wd (p ++ a) → Good wd (p ++ b) → p.length + a.length + b.length ≤ N → Runs wd N (p ++ a) (dif a b) (p ++ b)
  | [], [], p, ha, _, hN => by rw [dif]; exact .nil ha (by simp at hN ⊢; omega)
  | x :: a, [], p, ha, hb, hN => by
    rw [dif]
    have hp : ∀ e ∈ p, ltK e.key x.key = true := fun e he => (List.pairwise_append.1 ha.1).2.2 e he x (by simp)
    have hc := cut_mid (k := x.key) hp (by simp [ltK_irrefl]) ha
    have ht : there (p ++ x :: a) x.key = true := by rw [there_mid hc]; simp
    refine .cons ha (by simp at hN ⊢; omega) (fun _ => ht) (fun h => absurd rfl h) ?_
    have hs : stepP (p ++ x :: a) ⟨x.key, x.sum, em⟩ = p ++ a := by
      simp only [stepP, if_true, takeL, hc]
      simp
    rw [hs]
    exact runs_dif wd N h1 a [] p ha.mid hb (by simp at hN ⊢; omega)
  | [], y :: b, p, ha, hb, hN => by
    rw [dif]
    have hy := hb.2 y (by simp)
    have hp : ∀ e ∈ p, ltK e.key y.key = true := fun e he => (List.pairwise_append.1 hb.1).2.2 e he y (by simp)
    have hne : y.sum ≠ em := ne_em (by omega)
    have hc := cut_mid (q := []) (k := y.key) hp (by simp) ha
    have ht : there (p ++ []) y.key = false := by rw [there_mid hc]; rfl
    refine .cons ha (by simp at hN ⊢; omega) (fun h => absurd h hne) (fun _ => ⟨hy.2, hy.1⟩) ?_
    have hs : stepP (p ++ []) ⟨y.key, em, y.sum⟩ = (p ++ [y]) ++ [] := by
      simp only [stepP, if_neg hne, putL, hc, ht]
      simp
    rw [hs]
    have hb' : Good wd ((p ++ [y]) ++ b) := by rw [List.append_assoc]; exact hb
    have := runs_dif wd N h1 [] b (p ++ [y]) ⟨by rw [List.append_nil]; exact (List.pairwise_append.1 hb'.1).1, fun e he => hb'.2 e (by simp at he ⊢; rcases he with he | he <;> simp [he])⟩ hb' (by simp at hN ⊢; omega)
    rw [show (p ++ [y]) ++ b = p ++ y :: b by simp] at this
    exact this
  | x :: a, y :: b, p, ha, hb, hN => by
    have hx := ha.2 x (by simp)
    have hy := hb.2 y (by simp)
    have hpx : ∀ e ∈ p, ltK e.key x.key = true := fun e he => (List.pairwise_append.1 ha.1).2.2 e he x (by simp)
    have hpy : ∀ e ∈ p, ltK e.key y.key = true := fun e he => (List.pairwise_append.1 hb.1).2.2 e he y (by simp)
    have hcx := cut_mid (k := x.key) hpx (by simp [ltK_irrefl]) ha
    have htx : there (p ++ x :: a) x.key = true := by rw [there_mid hcx]; simp
    have hb' : Good wd ((p ++ [y]) ++ b) := by rw [List.append_assoc]; exact hb
    have hne : y.sum ≠ em := ne_em (by omega)
    have hxa := (List.pairwise_cons.1 (List.pairwise_append.1 ha.1).2.1).1
    have hpa : ∀ e ∈ p, ∀ f ∈ a, ltK e.key f.key = true := fun e he f hf => (List.pairwise_append.1 ha.1).2.2 e he f (by simp [hf])
    rw [dif]
    by_cases hlt : ltK x.key y.key = true
    · rw [if_pos hlt]
      refine .cons ha (by simp at hN ⊢; omega) (fun _ => htx) (fun h => absurd rfl h) ?_
      have hs : stepP (p ++ x :: a) ⟨x.key, x.sum, em⟩ = p ++ a := by
        simp only [stepP, if_true, takeL, hcx]
        simp
      rw [hs]
      exact runs_dif wd N h1 a (y :: b) p ha.mid hb (by simp at hN ⊢; omega)
    · rw [if_neg hlt]
      by_cases hgt : ltK y.key x.key = true
      · rw [if_pos hgt]
        have hc := cut_mid (k := y.key) hpy (by simp [ltK_asymm hgt]) ha
        have hxy : x.key ≠ y.key := fun e => by rw [e, ltK_irrefl] at hgt; cases hgt
        have ht : there (p ++ x :: a) y.key = false := by rw [there_mid hc]; simpa using hxy
        refine .cons ha (by simp at hN ⊢; omega) (fun h => absurd h hne) (fun _ => ⟨hy.2, hy.1⟩) ?_
        have hs : stepP (p ++ x :: a) ⟨y.key, em, y.sum⟩ = (p ++ [y]) ++ x :: a := by
          simp only [stepP, if_neg hne, putL, hc, ht]
          simp
        rw [hs]
        have ha' : Good wd ((p ++ [y]) ++ x :: a) := by
          refine ⟨List.pairwise_append.2 ⟨(List.pairwise_append.1 hb'.1).1, (List.pairwise_append.1 ha.1).2.1, fun e he f hf => ?_⟩, fun e he => ?_⟩
          · simp only [List.mem_append, List.mem_singleton] at he
            rcases he with he | rfl
            · exact (List.pairwise_append.1 ha.1).2.2 e he f hf
            · simp only [List.mem_cons] at hf
              rcases hf with rfl | hf
              · exact hgt
              · exact ltK_trans hgt (hxa f hf)
          · simp only [List.mem_append, List.mem_singleton] at he
            rcases he with (he | rfl) | he
            · exact ha.2 e (by simp [he])
            · exact hy
            · exact ha.2 e (by rw [List.mem_append]; exact .inr he)
        have := runs_dif wd N h1 (x :: a) b (p ++ [y]) ha' hb' (by simp at hN ⊢; omega)
        rw [show (p ++ [y]) ++ b = p ++ y :: b by simp] at this
        exact this
      · rw [if_neg hgt]
        have hk : x.key = y.key := by
          rcases ltK_tri x.key y.key with ⟨h, _⟩ | h | ⟨h, _⟩
          · exact absurd h hlt
          · exact h
          · exact absurd h hgt
        have ha' : Good wd ((p ++ [y]) ++ a) := by
          refine ⟨List.pairwise_append.2 ⟨(List.pairwise_append.1 hb'.1).1, (List.pairwise_cons.1 (List.pairwise_append.1 ha.1).2.1).2, fun e he f hf => ?_⟩, fun e he => ?_⟩
          · simp only [List.mem_append, List.mem_singleton] at he
            rcases he with he | rfl
            · exact hpa e he f hf
            · rw [← hk]; exact hxa f hf
          · simp only [List.mem_append, List.mem_singleton] at he
            rcases he with (he | rfl) | he
            · exact ha.2 e (by simp [he])
            · exact hy
            · exact ha.2 e (by simp [he])
        have hrec := runs_dif wd N h1 a b (p ++ [y]) ha' hb' (by simp at hN ⊢; omega)
        rw [show (p ++ [y]) ++ b = p ++ y :: b by simp] at hrec
        by_cases hsum : x.sum = y.sum
        · rw [if_pos hsum]
          have hxy : x = y := by cases x; cases y; simp only at hk hsum; rw [hk, hsum]
          subst hxy
          rw [show (p ++ [x]) ++ a = p ++ x :: a by simp] at hrec
          exact hrec
        · rw [if_neg hsum]
          refine .cons ha (by simp at hN ⊢; omega) (fun h => absurd h hne) (fun _ => ⟨hy.2, by rw [hk]; exact hy.1⟩) ?_
          have hs : stepP (p ++ x :: a) ⟨x.key, x.sum, y.sum⟩ = (p ++ [y]) ++ a := by
            simp only [stepP, if_neg hne, putL, hcx, htx, if_true]
            rw [hk]
            simp
          rw [hs]
          exact hrec
termination_by a b => a.length + b.length

def swapD (d : Dif) : Dif := ⟨d.key, d.right, d.left⟩
theorem dif_swap : ∀ a b : List Ent, dif b a = (dif a b).map swapD
  | [], [] => by rw [dif]; rfl
  | [], y :: b => by rw [dif, dif, dif_swap [] b]; rfl
  | x :: a, [] => by rw [dif, dif, dif_swap a []]; rfl
  | x :: a, y :: b => by
    rw [dif, dif]
    by_cases h1 : ltK x.key y.key = true
    · rw [if_neg (by rw [ltK_asymm h1]; exact Bool.false_ne_true), if_pos h1, if_pos h1, dif_swap a (y :: b)]; rfl
    · by_cases h2 : ltK y.key x.key = true
      · rw [if_pos h2, if_neg h1, if_pos h2, dif_swap (x :: a) b]; rfl
      · have hk : x.key = y.key := by
          rcases ltK_tri x.key y.key with ⟨h, _⟩ | h | ⟨h, _⟩
          · exact absurd h h1
          · exact h
          · exact absurd h h2
        rw [if_neg h2, if_neg h1, if_neg h1, if_neg h2]
        by_cases h3 : x.sum = y.sum
        · rw [if_pos h3, if_pos h3.symm]; exact dif_swap a b
        · rw [if_neg h3, if_neg (fun e => h3 e.symm), dif_swap a b, hk]; rfl
termination_by a b => a.length + b.length
theorem dif_nil : ∀ a b : List Ent, dif a b = [] ↔ a = b
  | [], [] => by rw [dif]; simp
  | [], y :: b => by rw [dif]; simp
  | x :: a, [] => by rw [dif]; simp
  | x :: a, y :: b => by
    rw [dif]
    by_cases h1 : ltK x.key y.key = true
    · rw [if_pos h1]
      simp only [List.cons.injEq, reduceCtorEq, false_iff, not_and]
      intro e; subst e; rw [ltK_irrefl] at h1; cases h1
    · by_cases h2 : ltK y.key x.key = true
      · rw [if_neg h1, if_pos h2]
        simp only [List.cons.injEq, reduceCtorEq, false_iff, not_and]
        intro e; subst e; rw [ltK_irrefl] at h2; cases h2
      · have hk : x.key = y.key := by
          rcases ltK_tri x.key y.key with ⟨h, _⟩ | h | ⟨h, _⟩
          · exact absurd h h1
          · exact h
          · exact absurd h h2
        rw [if_neg h1, if_neg h2]
        by_cases h3 : x.sum = y.sum
        · rw [if_pos h3, dif_nil a b]
          have hxy : x = y := by cases x; cases y; simp only at hk h3; rw [hk, h3]
          simp [hxy]
        · rw [if_neg h3]
          simp only [List.cons.injEq, reduceCtorEq, false_iff, not_and]
          intro e; subst e; exact absurd rfl h3
termination_by a b => a.length + b.length

/-- The sum that a list has of a key; the empty text, if it has none. -/
def hasK (l : List Ent) (k : ByteArray) : ByteArray := match l with | [] => em | e :: l => if e.key = k then e.sum else hasK l k
theorem hasK_none {l : List Ent} {k : ByteArray} (h : ∀ e ∈ l, e.key ≠ k) : hasK l k = em := by
  induction l with
  | nil => rfl
  | cons e l ih => rw [hasK, if_neg (h e (by simp))]; exact ih fun e he => h e (by simp [he])
theorem ltK_ne {a b : ByteArray} (h : ltK a b = true) : a ≠ b := fun e => by subst e; rw [ltK_irrefl] at h; cases h

/-- What is told of two lists that rise: all behind a key; it rises; it says what each list has. -/
theorem dif_above {k : ByteArray} : ∀ a b : List Ent, (∀ e ∈ a, ltK k e.key = true) → (∀ e ∈ b, ltK k e.key = true) → ∀ d ∈ dif a b, ltK k d.key = true
  | [], [], _, _, d, hd => by rw [dif] at hd; cases hd
  | [], y :: b, ha, hb, d, hd => by
    rw [dif, List.mem_cons] at hd
    rcases hd with rfl | hd
    · exact hb y (by simp)
    · exact dif_above [] b ha (fun e he => hb e (by simp [he])) d hd
  | x :: a, [], ha, hb, d, hd => by
    rw [dif, List.mem_cons] at hd
    rcases hd with rfl | hd
    · exact ha x (by simp)
    · exact dif_above a [] (fun e he => ha e (by simp [he])) hb d hd
  | x :: a, y :: b, ha, hb, d, hd => by
    have ha' : ∀ e ∈ a, ltK k e.key = true := fun e he => ha e (by simp [he])
    have hb' : ∀ e ∈ b, ltK k e.key = true := fun e he => hb e (by simp [he])
    rw [dif] at hd
    split at hd
    · rw [List.mem_cons] at hd
      rcases hd with rfl | hd
      · exact ha x (by simp)
      · exact dif_above a (y :: b) ha' hb d hd
    · split at hd
      · rw [List.mem_cons] at hd
        rcases hd with rfl | hd
        · exact hb y (by simp)
        · exact dif_above (x :: a) b ha hb' d hd
      · split at hd
        · exact dif_above a b ha' hb' d hd
        · rw [List.mem_cons] at hd
          rcases hd with rfl | hd
          · exact ha x (by simp)
          · exact dif_above a b ha' hb' d hd
termination_by a b => a.length + b.length

def Told (a b : List Ent) (ds : List Dif) : Prop := ds.Pairwise (fun d e => ltK d.key e.key = true) ∧ ∀ d ∈ ds, d.left ≠ d.right ∧ hasK a d.key = d.left ∧ hasK b d.key = d.right
theorem dif_told (wd : Nat) (h1 : 1 ≤ wd) : ∀ a b : List Ent, Good wd a → Good wd b → Told a b (dif a b)
  | [], [], _, _ => by rw [dif]; exact ⟨.nil, by simp⟩
  | [], y :: b, ha, hb => by
    have hy := hb.2 y (by simp)
    have hyb := (List.pairwise_cons.1 hb.1).1
    have hb' : Good wd b := ⟨(List.pairwise_cons.1 hb.1).2, fun e he => hb.2 e (by simp [he])⟩
    have ih := dif_told wd h1 [] b ha hb'
    have hab := dif_above (k := y.key) [] b (by simp) hyb
    rw [dif]
    refine ⟨List.pairwise_cons.2 ⟨hab, ih.1⟩, fun d hd => ?_⟩
    rw [List.mem_cons] at hd
    rcases hd with rfl | hd
    · exact ⟨(ne_em (by show 1 ≤ y.sum.size; omega)).symm, rfl, by simp [hasK]⟩
    · refine ⟨(ih.2 d hd).1, (ih.2 d hd).2.1, ?_⟩
      rw [hasK, if_neg (ltK_ne (hab d hd))]; exact (ih.2 d hd).2.2
  | x :: a, [], ha, hb => by
    have hx := ha.2 x (by simp)
    have hxa := (List.pairwise_cons.1 ha.1).1
    have ha' : Good wd a := ⟨(List.pairwise_cons.1 ha.1).2, fun e he => ha.2 e (by simp [he])⟩
    have ih := dif_told wd h1 a [] ha' hb
    have hab := dif_above (k := x.key) a [] hxa (by simp)
    rw [dif]
    refine ⟨List.pairwise_cons.2 ⟨hab, ih.1⟩, fun d hd => ?_⟩
    rw [List.mem_cons] at hd
    rcases hd with rfl | hd
    · exact ⟨ne_em (by show 1 ≤ x.sum.size; omega), by simp [hasK], rfl⟩
    · refine ⟨(ih.2 d hd).1, ?_, (ih.2 d hd).2.2⟩
      rw [hasK, if_neg (ltK_ne (hab d hd))]; exact (ih.2 d hd).2.1
  | x :: a, y :: b, ha, hb => by
    have hx := ha.2 x (by simp)
    have hy := hb.2 y (by simp)
    have hxa := (List.pairwise_cons.1 ha.1).1
    have hyb := (List.pairwise_cons.1 hb.1).1
    have ha' : Good wd a := ⟨(List.pairwise_cons.1 ha.1).2, fun e he => ha.2 e (by simp [he])⟩
    have hb' : Good wd b := ⟨(List.pairwise_cons.1 hb.1).2, fun e he => hb.2 e (by simp [he])⟩
    rw [dif]
    by_cases hlt : ltK x.key y.key = true
    · rw [if_pos hlt]
      have ih := dif_told wd h1 a (y :: b) ha' hb
      have hxb : ∀ e ∈ y :: b, ltK x.key e.key = true := fun e he => by
        rw [List.mem_cons] at he
        rcases he with rfl | he
        · exact hlt
        · exact ltK_trans hlt (hyb e he)
      have hab := dif_above (k := x.key) a (y :: b) hxa hxb
      refine ⟨List.pairwise_cons.2 ⟨hab, ih.1⟩, fun d hd => ?_⟩
      rw [List.mem_cons] at hd
      rcases hd with rfl | hd
      · exact ⟨ne_em (by show 1 ≤ x.sum.size; omega), by simp [hasK], hasK_none fun e he => (ltK_ne (hxb e he)).symm⟩
      · refine ⟨(ih.2 d hd).1, ?_, (ih.2 d hd).2.2⟩
        rw [hasK, if_neg (ltK_ne (hab d hd))]; exact (ih.2 d hd).2.1
    · rw [if_neg hlt]
      by_cases hgt : ltK y.key x.key = true
      · rw [if_pos hgt]
        have ih := dif_told wd h1 (x :: a) b ha hb'
        have hya : ∀ e ∈ x :: a, ltK y.key e.key = true := fun e he => by
          rw [List.mem_cons] at he
          rcases he with rfl | he
          · exact hgt
          · exact ltK_trans hgt (hxa e he)
        have hab := dif_above (k := y.key) (x :: a) b hya hyb
        refine ⟨List.pairwise_cons.2 ⟨hab, ih.1⟩, fun d hd => ?_⟩
        rw [List.mem_cons] at hd
        rcases hd with rfl | hd
        · exact ⟨(ne_em (by show 1 ≤ y.sum.size; omega)).symm, hasK_none fun e he => (ltK_ne (hya e he)).symm, by simp [hasK]⟩
        · refine ⟨(ih.2 d hd).1, (ih.2 d hd).2.1, ?_⟩
          rw [hasK, if_neg (ltK_ne (hab d hd))]; exact (ih.2 d hd).2.2
      · rw [if_neg hgt]
        have hk : x.key = y.key := by
          rcases ltK_tri x.key y.key with ⟨h, _⟩ | h | ⟨h, _⟩
          · exact absurd h hlt
          · exact h
          · exact absurd h hgt
        have ih := dif_told wd h1 a b ha' hb'
        have hab := dif_above (k := x.key) a b hxa (fun e he => by rw [hk]; exact hyb e he)
        have hr : ∀ d ∈ dif a b, d.left ≠ d.right ∧ hasK (x :: a) d.key = d.left ∧ hasK (y :: b) d.key = d.right := fun d hd => by
          refine ⟨(ih.2 d hd).1, ?_, ?_⟩
          · rw [hasK, if_neg (ltK_ne (hab d hd))]; exact (ih.2 d hd).2.1
          · rw [hasK, if_neg (by rw [← hk]; exact ltK_ne (hab d hd))]; exact (ih.2 d hd).2.2
        by_cases h3 : x.sum = y.sum
        · rw [if_pos h3]; exact ⟨ih.1, hr⟩
        · rw [if_neg h3]
          refine ⟨List.pairwise_cons.2 ⟨hab, ih.1⟩, fun d hd => ?_⟩
          rw [List.mem_cons] at hd
          rcases hd with rfl | hd
          · exact ⟨h3, by simp [hasK], by simp [hasK, hk]⟩
          · exact hr d hd
termination_by a b => a.length + b.length
end Go.Proofs.Ytejodabmddcanaa
