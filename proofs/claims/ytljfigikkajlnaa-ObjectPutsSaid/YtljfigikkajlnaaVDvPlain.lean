/- DERIVED. Dots, siblings, states: the plain words of chapters 10 and 11, no program in sight. -/
import Derived.Test.YtljfigikkajlnaaProg
import Derived.Below
import Derived.Deep.Draws
import Derived.Deep.AppendLies
import Derived.Maps.AppendAt
import Derived.OwnWalk
import Derived.Laws.OwnMore
import Derived.Laws.Rows
import Derived.WalkKit
import Derived.KernelRfl
import Derived.RegionTactic
namespace Go.Proofs.Ytljfigikkajlnaa
set_option linter.unusedVariables false
set_option linter.unusedSimpArgs false
/-- A dot: an actor and a count. -/
structure Dot where
  a : Int
  n : Int
deriving DecidableEq
structure Sib where
  d : Dot
  gone : Bool
  v : ByteArray
deriving DecidableEq
section
variable {α : Type}
/-- Each element may be, and each two neighbours may stand so. -/
def chainB (p : α → Bool) (r : α → α → Bool) : List α → Bool
  | [] => true
  | [x] => p x
  | x :: y :: l => p x && r x y && chainB p r (y :: l)
theorem chain_snoc (p : α → Bool) (r : α → α → Bool) (l : List α) (x : α) : chainB p r (l ++ [x]) = (chainB p r l && p x && (match l.getLast? with | none => true | some y => r y x)) := by
  induction l with
  | nil => simp [chainB]
  | cons y l ih =>
    cases l with
    | nil => simp [chainB]; cases p y <;> cases p x <;> cases r y x <;> rfl
    | cons z l =>
      simp only [List.cons_append, chainB] at ih ⊢
      rw [ih]
      simp only [List.getLast?_cons_cons]
      cases p y <;> cases r y z <;> simp
theorem chain_zero (p : α → Bool) (r : α → α → Bool) (l : List α) : chainB p r (l.take 0) = true := by simp [chainB]
theorem chain_one (p : α → Bool) (r : α → α → Bool) (l : List α) (h : 0 < l.length) : chainB p r (l.take 1) = p l[0] := by
  cases l with
  | nil => simp at h
  | cons x l => simp [chainB]
theorem chain_succ (p : α → Bool) (r : α → α → Bool) (l : List α) (k : Nat) (hk : 0 < k) (h : k < l.length) : chainB p r (l.take (k + 1)) = (chainB p r (l.take k) && p l[k] && r l[k - 1] l[k]) := by
  rw [List.take_succ_eq_append_getElem h, chain_snoc]
  have : (l.take k).getLast? = some l[k - 1] := by
    rw [List.getLast?_eq_getElem?]
    simp only [List.length_take, Nat.min_eq_left (Nat.le_of_lt h)]
    rw [List.getElem?_take_of_lt (by omega), List.getElem?_eq_getElem (by omega)]
  rw [this]
theorem chain_prefix (p : α → Bool) (r : α → α → Bool) (l m : List α) (h : chainB p r (l ++ m) = true) : chainB p r l = true := by
  induction m generalizing l with
  | nil => simpa using h
  | cons x m ih =>
    have := ih (l ++ [x]) (by simpa using h)
    rw [chain_snoc] at this
    simp only [Bool.and_eq_true] at this
    exact this.1.1
theorem chain_false (p : α → Bool) (r : α → α → Bool) (l : List α) (k : Nat) (h : chainB p r (l.take k) = false) : chainB p r l = false := by
  rw [Bool.eq_false_iff] at h ⊢
  intro hl
  rw [← List.take_append_drop k l] at hl
  exact h (chain_prefix p r _ _ hl)
theorem chain_all (p : α → Bool) (r : α → α → Bool) (l : List α) (h : chainB p r l = true) : ∀ x ∈ l, p x = true := by
  induction l with
  | nil => intro x hx; cases hx
  | cons y l ih =>
    cases l with
    | nil => intro x hx; simp only [List.mem_singleton] at hx; subst hx; exact h
    | cons z l =>
      simp only [chainB, Bool.and_eq_true] at h
      intro x hx
      rcases List.mem_cons.1 hx with rfl | hx
      · exact h.1.1
      · exact ih h.2 x hx
theorem chain_tail (p : α → Bool) (r : α → α → Bool) (x : α) (l : List α) (h : chainB p r (x :: l) = true) : chainB p r l = true := by
  cases l with
  | nil => rfl
  | cons y l => simp only [chainB, Bool.and_eq_true] at h; exact h.2
theorem chain_pair (p : α → Bool) (r : α → α → Bool) (ht : ∀ x y z, r x y = true → r y z = true → r x z = true) (l : List α) (h : chainB p r l = true) : l.Pairwise fun x y => r x y = true := by
  induction l with
  | nil => exact List.Pairwise.nil
  | cons y l ih =>
    refine List.Pairwise.cons ?_ (ih (chain_tail p r y l h))
    cases l with
    | nil => intro x hx; cases hx
    | cons z l =>
      have hp := ih (chain_tail p r y _ h)
      simp only [chainB, Bool.and_eq_true] at h
      intro x hx
      rcases List.mem_cons.1 hx with rfl | hx
      · exact h.1.2
      · exact ht _ _ _ h.1.2 ((List.pairwise_cons.1 hp).1 x hx)
theorem chain_of (p : α → Bool) (r : α → α → Bool) (l : List α) (hp : ∀ x ∈ l, p x = true) (hr : l.Pairwise fun x y => r x y = true) : chainB p r l = true := by
  induction l with
  | nil => rfl
  | cons y l ih =>
    have h1 := ih (fun x hx => hp x (List.mem_cons_of_mem _ hx)) (List.pairwise_cons.1 hr).2
    cases l with
    | nil => exact hp y (by simp)
    | cons z l =>
      simp only [chainB, Bool.and_eq_true]
      exact ⟨⟨hp y (by simp), (List.pairwise_cons.1 hr).1 z (by simp)⟩, h1⟩
end
def dOk (d : Dot) : Bool := decide (1 ≤ d.n) && decide (d.n ≤ 1099511627776)
def ltA (x y : Dot) : Bool := decide (x.a < y.a)
/-- May dots be a vector? -/
def vecB (l : List Dot) : Bool := chainB dOk ltA l && decide (l.length ≤ 64)
/-- Actors that rise. -/
def Ris (l : List Dot) : Prop := l.Pairwise fun x y => x.a < y.a
theorem vec_ris {l : List Dot} (h : vecB l = true) : Ris l := by
  unfold vecB at h
  simp only [Bool.and_eq_true] at h
  have := chain_pair dOk ltA (fun x y z h1 h2 => by simp only [ltA, decide_eq_true_eq] at *; omega) l h.1
  exact this.imp fun h => by simpa [ltA] using h
theorem vec_ok {l : List Dot} (h : vecB l = true) : ∀ d ∈ l, 1 ≤ d.n ∧ d.n ≤ 1099511627776 := by
  unfold vecB at h
  simp only [Bool.and_eq_true] at h
  intro d hd
  have := chain_all dOk ltA l h.1 d hd
  simpa [dOk] using this
theorem vec_len {l : List Dot} (h : vecB l = true) : l.length ≤ 64 := by
  unfold vecB at h
  simp only [Bool.and_eq_true, decide_eq_true_eq] at h
  exact h.2
theorem vec_of {l : List Dot} (h1 : Ris l) (h2 : ∀ d ∈ l, 1 ≤ d.n ∧ d.n ≤ 1099511627776) (h3 : l.length ≤ 64) : vecB l = true := by
  unfold vecB
  simp only [Bool.and_eq_true, decide_eq_true_eq]
  exact ⟨chain_of dOk ltA l (fun d hd => by simpa [dOk] using h2 d hd) (h1.imp fun h => by simpa [ltA] using h), h3⟩
/-- An actor's count in rising dots; 0: it has none. -/
def look : List Dot → Int → Int
  | [], _ => 0
  | d :: l, k => if d.a = k then d.n else look l k
theorem look_none {l : List Dot} {k : Int} (h : ∀ d ∈ l, d.a ≠ k) : look l k = 0 := by
  induction l with
  | nil => rfl
  | cons d l ih => rw [look, if_neg (h d (by simp)), ih fun e he => h e (List.mem_cons_of_mem _ he)]
theorem look_mem {l : List Dot} (hr : Ris l) {d : Dot} (h : d ∈ l) : look l d.a = d.n := by
  induction l with
  | nil => cases h
  | cons x l ih =>
    rcases List.mem_cons.1 h with rfl | h
    · rw [look, if_pos rfl]
    · have := (List.pairwise_cons.1 hr).1 d h
      rw [look, if_neg (by omega), ih (List.pairwise_cons.1 hr).2 h]
theorem look_cases (l : List Dot) (k : Int) : (look l k = 0 ∧ ∀ d ∈ l, d.a ≠ k) ∨ ∃ d ∈ l, d.a = k ∧ look l k = d.n := by
  induction l with
  | nil => exact .inl ⟨rfl, fun d hd => by cases hd⟩
  | cons x l ih =>
    by_cases h : x.a = k
    · exact .inr ⟨x, by simp, h, by rw [look, if_pos h]⟩
    · rcases ih with ⟨h1, h2⟩ | ⟨d, hd, h1, h2⟩
      · exact .inl ⟨by rw [look, if_neg h, h1], fun d hd => by
          rcases List.mem_cons.1 hd with rfl | hd
          · exact h
          · exact h2 d hd⟩
      · exact .inr ⟨d, List.mem_cons_of_mem _ hd, h1, by rw [look, if_neg h, h2]⟩
/-- Rising dots with positive counts are known by their counts. -/
theorem look_ext : ∀ {l m : List Dot}, Ris l → Ris m → (∀ d ∈ l, 1 ≤ d.n) → (∀ d ∈ m, 1 ≤ d.n) → (∀ k, look l k = look m k) → l = m
  | [], [], _, _, _, _, _ => rfl
  | [], y :: m, _, _, _, p2, h => by
    have h1 := h y.a
    rw [look, look, if_pos rfl] at h1
    have := p2 y (by simp)
    omega
  | x :: l, [], _, _, p1, _, h => by
    have h1 := h x.a
    rw [look, look, if_pos rfl] at h1
    have := p1 x (by simp)
    omega
  | x :: l, y :: m, r1, r2, p1, p2, h => by
    have q1 := List.pairwise_cons.1 r1
    have q2 := List.pairwise_cons.1 r2
    have hx := h x.a
    have hy := h y.a
    have px := p1 x (by simp)
    have py := p2 y (by simp)
    have ha : x.a = y.a := by
      rcases Int.lt_trichotomy x.a y.a with h1 | h1 | h1
      · rw [look, if_pos rfl, look, if_neg (by omega), look_none (fun d hd => by have := q2.1 d hd; omega)] at hx
        omega
      · exact h1
      · rw [look, if_neg (by omega), look, if_pos rfl, look_none (fun d hd => by have := q1.1 d hd; omega)] at hy
        omega
    have hn : x.n = y.n := by
      rw [look, if_pos rfl, look, if_pos ha.symm] at hx
      exact hx
    have he : x = y := by cases x; cases y; simp only at ha hn; rw [ha, hn]
    subst he
    congr 1
    refine look_ext q1.2 q2.2 (fun d hd => p1 d (List.mem_cons_of_mem _ hd)) (fun d hd => p2 d (List.mem_cons_of_mem _ hd)) fun k => ?_
    have hk := h k
    by_cases hxk : x.a = k
    · rw [look_none (fun d hd => by have := q1.1 d hd; omega), look_none (fun d hd => by have := q2.1 d hd; omega)]
    · rw [look, if_neg hxk, look, if_neg hxk] at hk
      exact hk
/-- Count: an actor's count in a vector; 0 also where it is none. -/
def cnt (l : List Dot) (k : Int) : Int := if vecB l then look l k else 0
theorem cnt_vec {l : List Dot} (h : vecB l = true) (k : Int) : cnt l k = look l k := by unfold cnt; rw [if_pos h]
theorem cnt_no {l : List Dot} (h : vecB l = false) (k : Int) : cnt l k = 0 := by unfold cnt; rw [if_neg (by rw [h]; simp)]
theorem look_bound {l : List Dot} (h : vecB l = true) (k : Int) : 0 ≤ look l k ∧ look l k ≤ 1099511627776 := by
  rcases look_cases l k with ⟨h1, _⟩ | ⟨d, hd, _, h2⟩
  · omega
  · have := vec_ok h d hd; omega
theorem cnt_bound (l : List Dot) (k : Int) : 0 ≤ cnt l k ∧ cnt l k ≤ 1099511627776 := by
  unfold cnt
  split
  · exact look_bound ‹_› k
  · omega
/-- Was a dot seen? -/
def cov (l : List Dot) (d : Dot) : Bool := decide (1 ≤ d.n) && decide (d.n ≤ cnt l d.a)
/-- What either has seen. -/
def vmax : List Dot → List Dot → List Dot
  | [], b => b
  | x :: a, [] => x :: a
  | x :: a, y :: b =>
    if x.a < y.a then x :: vmax a (y :: b)
    else if y.a < x.a then y :: vmax (x :: a) b
    else ⟨x.a, max x.n y.n⟩ :: vmax a b
termination_by a b => a.length + b.length
theorem vmax_nil_right (a : List Dot) : vmax a [] = a := by cases a <;> simp [vmax]
theorem vmax_nil_left (a : List Dot) : vmax [] a = a := by rw [vmax]
theorem vmax_actor : ∀ (a b : List Dot) (d : Dot), d ∈ vmax a b → (∃ x ∈ a, x.a = d.a) ∨ ∃ y ∈ b, y.a = d.a
  | [], b, d, h => by rw [vmax_nil_left] at h; exact .inr ⟨d, h, rfl⟩
  | x :: a, [], d, h => by rw [vmax_nil_right] at h; exact .inl ⟨d, h, rfl⟩
  | x :: a, y :: b, d, h => by
    rw [vmax] at h
    split at h
    · rcases List.mem_cons.1 h with rfl | h
      · exact .inl ⟨d, by simp, rfl⟩
      · rcases vmax_actor a (y :: b) d h with ⟨z, hz, e⟩ | ⟨z, hz, e⟩
        · exact .inl ⟨z, List.mem_cons_of_mem _ hz, e⟩
        · exact .inr ⟨z, hz, e⟩
    · split at h
      · rcases List.mem_cons.1 h with rfl | h
        · exact .inr ⟨d, by simp, rfl⟩
        · rcases vmax_actor (x :: a) b d h with ⟨z, hz, e⟩ | ⟨z, hz, e⟩
          · exact .inl ⟨z, hz, e⟩
          · exact .inr ⟨z, List.mem_cons_of_mem _ hz, e⟩
      · rcases List.mem_cons.1 h with rfl | h
        · exact .inl ⟨x, by simp, rfl⟩
        · rcases vmax_actor a b d h with ⟨z, hz, e⟩ | ⟨z, hz, e⟩
          · exact .inl ⟨z, List.mem_cons_of_mem _ hz, e⟩
          · exact .inr ⟨z, List.mem_cons_of_mem _ hz, e⟩
termination_by a b => a.length + b.length
theorem vmax_ris : ∀ (a b : List Dot), Ris a → Ris b → Ris (vmax a b)
  | [], b, _, hb => by rw [vmax_nil_left]; exact hb
  | x :: a, [], ha, _ => by rw [vmax_nil_right]; exact ha
  | x :: a, y :: b, ha, hb => by
    have q1 := List.pairwise_cons.1 ha
    have q2 := List.pairwise_cons.1 hb
    rw [vmax]
    split
    · refine List.Pairwise.cons (fun d hd => ?_) (vmax_ris a (y :: b) q1.2 hb)
      rcases vmax_actor _ _ d hd with ⟨z, hz, e⟩ | ⟨z, hz, e⟩
      · have := q1.1 z hz; omega
      · rcases List.mem_cons.1 hz with rfl | hz
        · omega
        · have := q2.1 z hz; omega
    · split
      · refine List.Pairwise.cons (fun d hd => ?_) (vmax_ris (x :: a) b ha q2.2)
        rcases vmax_actor _ _ d hd with ⟨z, hz, e⟩ | ⟨z, hz, e⟩
        · rcases List.mem_cons.1 hz with rfl | hz
          · omega
          · have := q1.1 z hz; omega
        · have := q2.1 z hz; omega
      · refine List.Pairwise.cons (fun d hd => ?_) (vmax_ris a b q1.2 q2.2)
        show x.a < d.a
        rcases vmax_actor _ _ d hd with ⟨z, hz, e⟩ | ⟨z, hz, e⟩
        · have := q1.1 z hz; omega
        · have := q2.1 z hz; omega
termination_by a b => a.length + b.length
theorem vmax_look : ∀ (a b : List Dot), Ris a → Ris b → (∀ d ∈ a, 1 ≤ d.n) → (∀ d ∈ b, 1 ≤ d.n) → ∀ k, look (vmax a b) k = max (look a k) (look b k)
  | [], b, _, hb, _, pb, k => by
    rw [vmax_nil_left, look]
    rcases look_cases b k with ⟨h1, _⟩ | ⟨d, hd, _, h2⟩
    · omega
    · have := pb d hd; omega
  | x :: a, [], ha, _, pa, _, k => by
    rw [vmax_nil_right, look.eq_1]
    rcases look_cases (x :: a) k with ⟨h1, _⟩ | ⟨d, hd, _, h2⟩
    · omega
    · have := pa d hd; omega
  | x :: a, y :: b, ha, hb, pa, pb, k => by
    have q1 := List.pairwise_cons.1 ha
    have q2 := List.pairwise_cons.1 hb
    have px := pa x (by simp)
    have py := pb y (by simp)
    have pa2 : ∀ d ∈ a, 1 ≤ d.n := fun d hd => pa d (List.mem_cons_of_mem _ hd)
    have pb2 : ∀ d ∈ b, 1 ≤ d.n := fun d hd => pb d (List.mem_cons_of_mem _ hd)
    rw [vmax]
    split
    · rename_i h1
      rw [look]
      by_cases hk : x.a = k
      · rw [if_pos hk, look, if_pos hk, look_none (l := y :: b) (fun d hd => by
          rcases List.mem_cons.1 hd with rfl | hd
          · omega
          · have := q2.1 d hd; omega)]
        omega
      · rw [if_neg hk, vmax_look a (y :: b) q1.2 hb pa2 pb k, look.eq_2 k x a, if_neg hk]
    · split
      · rename_i h1 h2
        rw [look]
        by_cases hk : y.a = k
        · rw [if_pos hk, look.eq_2 k y b, if_pos hk, look_none (l := x :: a) (fun d hd => by
            rcases List.mem_cons.1 hd with rfl | hd
            · omega
            · have := q1.1 d hd; omega)]
          omega
        · rw [if_neg hk, vmax_look (x :: a) b ha q2.2 pa pb2 k, look.eq_2 k y b, if_neg hk]
      · rename_i h1 h2
        have hxy : x.a = y.a := by omega
        rw [look]
        by_cases hk : x.a = k
        · rw [if_pos hk, look, if_pos hk, look, if_pos (by omega)]
        · rw [if_neg hk, vmax_look a b q1.2 q2.2 pa2 pb2 k, look.eq_2 k x a, if_neg hk, look.eq_2 k y b, if_neg (by omega)]
termination_by a b => a.length + b.length
theorem vmax_ok {a b : List Dot} (ha : vecB a = true) (hb : vecB b = true) : ∀ d ∈ vmax a b, 1 ≤ d.n ∧ d.n ≤ 1099511627776 := by
  intro d hd
  have h1 := vmax_look a b (vec_ris ha) (vec_ris hb) (fun d hd => (vec_ok ha d hd).1) (fun d hd => (vec_ok hb d hd).1) d.a
  rw [look_mem (vmax_ris a b (vec_ris ha) (vec_ris hb)) hd] at h1
  have h2 := look_bound ha d.a
  have h3 := look_bound hb d.a
  refine ⟨?_, by omega⟩
  rcases vmax_actor a b d hd with ⟨z, hz, e⟩ | ⟨z, hz, e⟩
  · have h4 := look_mem (vec_ris ha) hz
    have h5 := (vec_ok ha z hz).1
    rw [e] at h4
    omega
  · have h4 := look_mem (vec_ris hb) hz
    have h5 := (vec_ok hb z hz).1
    rw [e] at h4
    omega
theorem vmax_len : ∀ (a b : List Dot), (vmax a b).length ≤ a.length + b.length
  | [], b => by rw [vmax_nil_left]; simp
  | x :: a, [] => by rw [vmax_nil_right]; simp
  | x :: a, y :: b => by
    have h1 := vmax_len a (y :: b)
    have h2 := vmax_len (x :: a) b
    have h3 := vmax_len a b
    rw [vmax]
    simp only [List.length_cons] at *
    split
    · simp only [List.length_cons]; omega
    · split
      · simp only [List.length_cons]; omega
      · simp only [List.length_cons]; omega
termination_by a b => a.length + b.length
def maxE (a b : List Dot) : Int := if vecB a && vecB b then (if (vmax a b).length ≤ 64 then 0 else 82) else 100
def maxL (a b : List Dot) : List Dot := if maxE a b = 0 then vmax a b else []
/-- How dots stand. -/
def ltD (x y : Dot) : Bool := decide (x.a < y.a) || (decide (x.a = y.a) && decide (x.n < y.n))
theorem ltD_iff (x y : Dot) : ltD x y = true ↔ x.a < y.a ∨ (x.a = y.a ∧ x.n < y.n) := by simp [ltD]
theorem ltD_trans {x y z : Dot} (h : ltD x y = true) (k : ltD y z = true) : ltD x z = true := by rw [ltD_iff] at *; omega
theorem ltD_irrefl (x : Dot) : ltD x x = false := by rw [Bool.eq_false_iff, Ne, ltD_iff]; omega
theorem ltD_tri (x y : Dot) : (ltD x y = true ∧ x ≠ y ∧ ltD y x = false) ∨ x = y ∨ (ltD y x = true ∧ x ≠ y ∧ ltD x y = false) := by
  by_cases h : x = y
  · exact .inr (.inl h)
  · have h' : x.a ≠ y.a ∨ x.n ≠ y.n := by
      by_cases ha : x.a = y.a
      · exact .inr fun hn => h (by cases x; cases y; simp only at ha hn; rw [ha, hn])
      · exact .inl ha
    by_cases h1 : ltD x y = true
    · refine .inl ⟨h1, h, ?_⟩
      rw [Bool.eq_false_iff, Ne, ltD_iff]; rw [ltD_iff] at h1; omega
    · have h1' : ltD x y = false := by simpa using h1
      refine .inr (.inr ⟨?_, h, h1'⟩)
      rw [ltD_iff] at h1 ⊢; omega
/-- order's number. -/
def cmpD (x y : Dot) : Int := if ltD x y then -1 else if x = y then 0 else 1
/-- What a sibling may be, where these dots were seen. -/
def sOk (seen : List Dot) (x : Sib) : Bool := cov seen x.d && decide (x.v.size ≤ 40) && !(x.gone && decide (x.v.size ≠ 0))
def ltS (x y : Sib) : Bool := ltD x.d y.d
/-- May a state be? -/
def staB (seen : List Dot) (l : List Sib) : Bool := vecB seen && decide (l.length ≤ 64) && chainB (sOk seen) ltS l
theorem cov_vec {a : List Dot} (h : vecB a = true) (d : Dot) : cov a d = true ↔ 1 ≤ d.n ∧ d.n ≤ look a d.a := by
  simp only [cov, cnt_vec h, Bool.and_eq_true, decide_eq_true_eq]
end Go.Proofs.Ytljfigikkajlnaa
