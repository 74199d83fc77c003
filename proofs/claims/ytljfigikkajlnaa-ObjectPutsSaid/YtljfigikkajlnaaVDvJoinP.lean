/- DERIVED. What Join does, in plain words: the program's way side by side, the document's way dot by dot; they are the same. -/
import Derived.Test.YtljfigikkajlnaaVDvPlain
import Derived.Test.YtljfigikkajlnaaVm6
namespace Go.Proofs.Ytljfigikkajlnaa
set_option linter.unusedVariables false
set_option linter.unusedSimpArgs false
/-- Has x the lesser content? -/
def lesB (x y : Sib) : Bool := if x.gone = y.gone then ltK x.v y.v else x.gone
/-- The later one of two contents of a dot, as the program has it. -/
def lesS (x y : Sib) : Sib := if lesB y x then y else x
/-- Siblings whose dots rise. -/
def SRis (l : List Sib) : Prop := l.Pairwise fun x y => ltD x.d y.d = true
theorem sris_of {a : List Dot} {l : List Sib} (h : staB a l = true) : SRis l := by
  unfold staB at h
  simp only [Bool.and_eq_true] at h
  exact chain_pair (sOk a) ltS (fun _ _ _ h1 h2 => ltD_trans h1 h2) l h.2
theorem sta_ok {a : List Dot} {l : List Sib} (h : staB a l = true) : vecB a = true ∧ l.length ≤ 64 ∧ ∀ x ∈ l, cov a x.d = true ∧ x.v.size ≤ 40 ∧ (x.gone = true → x.v.size = 0) := by
  unfold staB at h
  simp only [Bool.and_eq_true, decide_eq_true_eq] at h
  refine ⟨h.1.1, h.1.2, fun x hx => ?_⟩
  have := chain_all _ _ l h.2 x hx
  simp only [sOk, Bool.and_eq_true, decide_eq_true_eq, Bool.not_eq_true', Bool.and_eq_false_imp, decide_eq_false_iff_not, ne_eq, Decidable.not_not] at this
  exact ⟨this.1.1, this.1.2, this.2⟩
/-- The join of siblings, side by side: ca, cb: what was seen. -/
def sjoin (ca cb : Dot → Bool) : List Sib → List Sib → List Sib
  | [], [] => []
  | [], y :: m => if ca y.d then sjoin ca cb [] m else y :: sjoin ca cb [] m
  | x :: l, [] => if cb x.d then sjoin ca cb l [] else x :: sjoin ca cb l []
  | x :: l, y :: m =>
    if ltD x.d y.d then (if cb x.d then sjoin ca cb l (y :: m) else x :: sjoin ca cb l (y :: m))
    else if ltD y.d x.d then (if ca y.d then sjoin ca cb (x :: l) m else y :: sjoin ca cb (x :: l) m)
    else lesS x y :: sjoin ca cb l m
termination_by l m => l.length + m.length
theorem sj_end (ca cb : Dot → Bool) : sjoin ca cb [] [] = [] := by rw [sjoin]
theorem sj_left {ca cb : Dot → Bool} {l m : List Sib} {i k : Nat} (hi : i < l.length) (h : k ≥ m.length ∨ ∃ h : k < m.length, ltD l[i].d m[k].d = true) :
    sjoin ca cb (l.drop i) (m.drop k) = if cb l[i].d then sjoin ca cb (l.drop (i + 1)) (m.drop k) else l[i] :: sjoin ca cb (l.drop (i + 1)) (m.drop k) := by
  rw [List.drop_eq_getElem_cons hi]
  rcases h with h | ⟨h, hlt⟩
  · rw [List.drop_eq_nil_of_le h, sjoin]
  · rw [List.drop_eq_getElem_cons h, sjoin, if_pos hlt]
theorem sj_right {ca cb : Dot → Bool} {l m : List Sib} {i k : Nat} (hk : k < m.length) (h : i ≥ l.length ∨ ∃ h : i < l.length, ltD m[k].d l[i].d = true) :
    sjoin ca cb (l.drop i) (m.drop k) = if ca m[k].d then sjoin ca cb (l.drop i) (m.drop (k + 1)) else m[k] :: sjoin ca cb (l.drop i) (m.drop (k + 1)) := by
  rw [List.drop_eq_getElem_cons hk]
  rcases h with h | ⟨h, hlt⟩
  · rw [List.drop_eq_nil_of_le h, sjoin]
  · rw [List.drop_eq_getElem_cons h, sjoin, if_neg, if_pos hlt]
    intro h2
    rcases ltD_tri l[i].d m[k].d with ⟨_, _, h3⟩ | h3 | ⟨_, _, h3⟩
    · rw [hlt] at h3; cases h3
    · rw [h3, ltD_irrefl] at h2; cases h2
    · rw [h2] at h3; cases h3
theorem sj_both {ca cb : Dot → Bool} {l m : List Sib} {i k : Nat} (hi : i < l.length) (hk : k < m.length) (h : l[i].d = m[k].d) :
    sjoin ca cb (l.drop i) (m.drop k) = lesS l[i] m[k] :: sjoin ca cb (l.drop (i + 1)) (m.drop (k + 1)) := by
  rw [List.drop_eq_getElem_cons hi, List.drop_eq_getElem_cons hk, sjoin, h, ltD_irrefl, if_neg (by simp), if_neg (by simp)]
/-- The dots of both, in order, each once. -/
def mdots : List Sib → List Sib → List Dot
  | [], [] => []
  | [], y :: m => y.d :: mdots [] m
  | x :: l, [] => x.d :: mdots l []
  | x :: l, y :: m => if ltD x.d y.d then x.d :: mdots l (y :: m) else if ltD y.d x.d then y.d :: mdots (x :: l) m else x.d :: mdots l m
termination_by l m => l.length + m.length
theorem mdots_mem : ∀ (l m : List Sib) (d : Dot), d ∈ mdots l m ↔ (∃ x ∈ l, x.d = d) ∨ ∃ y ∈ m, y.d = d
  | [], [], d => by rw [mdots]; simp
  | [], y :: m, d => by rw [mdots, List.mem_cons, mdots_mem [] m d]; simp [eq_comm]
  | x :: l, [], d => by rw [mdots, List.mem_cons, mdots_mem l [] d]; simp [eq_comm]
  | x :: l, y :: m, d => by
    rw [mdots]
    split
    · rw [List.mem_cons, mdots_mem l (y :: m) d]
      simp only [List.mem_cons, exists_eq_or_imp]
      constructor
      · rintro (h | h | h)
        · exact .inl (.inl h.symm)
        · exact .inl (.inr h)
        · exact .inr h
      · rintro ((h | h) | h)
        · exact .inl h.symm
        · exact .inr (.inl h)
        · exact .inr (.inr h)
    · split
      · rw [List.mem_cons, mdots_mem (x :: l) m d]
        simp only [List.mem_cons, exists_eq_or_imp]
        constructor
        · rintro (h | h | h)
          · exact .inr (.inl h.symm)
          · exact .inl h
          · exact .inr (.inr h)
        · rintro (h | h | h)
          · exact .inr (.inl h)
          · exact .inl h.symm
          · exact .inr (.inr h)
      · rename_i h1 h2
        have hxy : x.d = y.d := by
          rcases ltD_tri x.d y.d with ⟨h, _⟩ | h | ⟨h, _⟩
          · exact absurd h h1
          · exact h
          · exact absurd h h2
        rw [List.mem_cons, mdots_mem l m d]
        simp only [List.mem_cons, exists_eq_or_imp]
        constructor
        · rintro (h | h | h)
          · exact .inl (.inl h.symm)
          · exact .inl (.inr h)
          · exact .inr (.inr h)
        · rintro ((h | h) | h | h)
          · exact .inl h.symm
          · exact .inr (.inl h)
          · exact .inl (by rw [hxy, h])
          · exact .inr (.inr h)
termination_by l m => l.length + m.length
def DRis (l : List Dot) : Prop := l.Pairwise fun x y => ltD x y = true
theorem mdots_ris : ∀ (l m : List Sib), SRis l → SRis m → DRis (mdots l m)
  | [], [], _, _ => by rw [mdots]; exact List.Pairwise.nil
  | [], y :: m, h1, h2 => by
    have q := List.pairwise_cons.1 h2
    rw [mdots]
    refine List.Pairwise.cons (fun d hd => ?_) (mdots_ris [] m h1 q.2)
    rcases (mdots_mem [] m d).1 hd with ⟨z, hz, _⟩ | ⟨z, hz, e⟩
    · cases hz
    · rw [← e]; exact q.1 z hz
  | x :: l, [], h1, h2 => by
    have q := List.pairwise_cons.1 h1
    rw [mdots]
    refine List.Pairwise.cons (fun d hd => ?_) (mdots_ris l [] q.2 h2)
    rcases (mdots_mem l [] d).1 hd with ⟨z, hz, e⟩ | ⟨z, hz, _⟩
    · rw [← e]; exact q.1 z hz
    · cases hz
  | x :: l, y :: m, h1, h2 => by
    have q1 := List.pairwise_cons.1 h1
    have q2 := List.pairwise_cons.1 h2
    rw [mdots]
    split
    · rename_i h
      refine List.Pairwise.cons (fun d hd => ?_) (mdots_ris l (y :: m) q1.2 h2)
      rcases (mdots_mem l (y :: m) d).1 hd with ⟨z, hz, e⟩ | ⟨z, hz, e⟩
      · rw [← e]; exact q1.1 z hz
      · rw [← e]
        rcases List.mem_cons.1 hz with rfl | hz
        · exact h
        · exact ltD_trans h (q2.1 z hz)
    · split
      · rename_i h
        refine List.Pairwise.cons (fun d hd => ?_) (mdots_ris (x :: l) m h1 q2.2)
        rcases (mdots_mem (x :: l) m d).1 hd with ⟨z, hz, e⟩ | ⟨z, hz, e⟩
        · rw [← e]
          rcases List.mem_cons.1 hz with rfl | hz
          · exact h
          · exact ltD_trans h (q1.1 z hz)
        · rw [← e]; exact q2.1 z hz
      · rename_i h3 h4
        have hxy : x.d = y.d := by
          rcases ltD_tri x.d y.d with ⟨h, _⟩ | h | ⟨h, _⟩
          · exact absurd h h3
          · exact h
          · exact absurd h h4
        refine List.Pairwise.cons (fun d hd => ?_) (mdots_ris l m q1.2 q2.2)
        rcases (mdots_mem l m d).1 hd with ⟨z, hz, e⟩ | ⟨z, hz, e⟩
        · rw [← e]; exact q1.1 z hz
        · rw [← e, hxy]; exact q2.1 z hz
termination_by l m => l.length + m.length
theorem dris_ext : ∀ {l m : List Dot}, DRis l → DRis m → (∀ d, d ∈ l ↔ d ∈ m) → l = m
  | [], [], _, _, _ => rfl
  | [], y :: m, _, _, h => by have := (h y).2 (by simp); cases this
  | x :: l, [], _, _, h => by have := (h x).1 (by simp); cases this
  | x :: l, y :: m, h1, h2, h => by
    have q1 := List.pairwise_cons.1 h1
    have q2 := List.pairwise_cons.1 h2
    have hxy : x = y := by
      rcases ltD_tri x y with ⟨h3, hn, _⟩ | h3 | ⟨h3, hn, _⟩
      · have h4 := (h x).1 (by simp)
        rcases List.mem_cons.1 h4 with h5 | h5
        · exact h5
        · have := ltD_trans h3 (q2.1 x h5); rw [ltD_irrefl] at this; cases this
      · exact h3
      · have h4 := (h y).2 (by simp)
        rcases List.mem_cons.1 h4 with h5 | h5
        · exact h5.symm
        · have := ltD_trans h3 (q1.1 y h5); rw [ltD_irrefl] at this; cases this
    subst hxy
    congr 1
    refine dris_ext q1.2 q2.2 fun d => ?_
    constructor
    · intro hd
      have h3 := (h d).1 (List.mem_cons_of_mem _ hd)
      rcases List.mem_cons.1 h3 with rfl | h3
      · have := q1.1 d hd; rw [ltD_irrefl] at this; cases this
      · exact h3
    · intro hd
      have h3 := (h d).2 (List.mem_cons_of_mem _ hd)
      rcases List.mem_cons.1 h3 with rfl | h3
      · have := q2.1 d hd; rw [ltD_irrefl] at this; cases this
      · exact h3
def zeroS : Sib := ⟨⟨0, 0⟩, false, ⟨#[]⟩⟩
/-- What a state says of a dot: 1 there, 2 over, 0 unseen; and the sibling. -/
def says (a : List Dot) (l : List Sib) (d : Dot) : Int × Sib := match l.find? fun x => decide (x.d = d) with
  | some x => (1, x)
  | none => if cov a d then (2, zeroS) else (0, zeroS)
theorem says_there {a : List Dot} {l : List Sib} (hr : SRis l) {x : Sib} (hx : x ∈ l) : says a l x.d = (1, x) := by
  have : l.find? (fun z => decide (z.d = x.d)) = some x := by
    induction l with
    | nil => cases hx
    | cons y l ih =>
      have q := List.pairwise_cons.1 hr
      rcases List.mem_cons.1 hx with rfl | hx
      · rw [List.find?_cons_of_pos (by simp)]
      · have h1 := q.1 x hx
        rw [List.find?_cons_of_neg, ih q.2 hx]
        simp only [decide_eq_true_eq]
        intro e; rw [e, ltD_irrefl] at h1; cases h1
  unfold says
  rw [this]
theorem says_not {a : List Dot} {l : List Sib} {d : Dot} (h : ∀ x ∈ l, x.d ≠ d) : says a l d = if cov a d then (2, zeroS) else (0, zeroS) := by
  have : l.find? (fun z => decide (z.d = d)) = none := by
    rw [List.find?_eq_none]
    intro x hx
    simpa using h x hx
  unfold says
  rw [this]
/-- What the document's Join puts for a dot. -/
def jpick (a b : List Dot) (l m : List Sib) (d : Dot) : Option Sib :=
  if (says a l d).1 = 2 ∨ (says b m d).1 = 2 then none
  else if (says a l d).1 = 0 ∨ ((says b m d).1 = 1 ∧ lesB (says b m d).2 (says a l d).2 = true) then some (says b m d).2
  else some (says a l d).2
theorem pick_left {a b : List Dot} {l m : List Sib} (hl : SRis l) {x : Sib} (hx : x ∈ l) (h : ∀ y ∈ m, y.d ≠ x.d) : jpick a b l m x.d = if cov b x.d then none else some x := by
  unfold jpick
  rw [says_there hl hx, says_not h]
  by_cases hc : cov b x.d = true <;> simp [hc]
theorem pick_right {a b : List Dot} {l m : List Sib} (hm : SRis m) {y : Sib} (hy : y ∈ m) (h : ∀ x ∈ l, x.d ≠ y.d) : jpick a b l m y.d = if cov a y.d then none else some y := by
  unfold jpick
  rw [says_there hm hy, says_not h]
  by_cases hc : cov a y.d = true <;> simp [hc]
theorem pick_both {a b : List Dot} {l m : List Sib} (hl : SRis l) (hm : SRis m) {x y : Sib} (hx : x ∈ l) (hy : y ∈ m) (h : x.d = y.d) : jpick a b l m x.d = some (lesS x y) := by
  unfold jpick
  have h2 := says_there (a := b) hm hy
  rw [← h] at h2
  rw [says_there hl hx, h2]
  unfold lesS
  by_cases hc : lesB y x = true <;> simp [hc]
theorem pick_all {a b : List Dot} {l m : List Sib} (hl : SRis l) (hm : SRis m) : ∀ (l' m' : List Sib), SRis l' → SRis m' → (∀ x ∈ l', x ∈ l) → (∀ y ∈ m', y ∈ m) →
    (∀ x ∈ l', ∀ y ∈ m, y.d = x.d → y ∈ m') → (∀ y ∈ m', ∀ x ∈ l, x.d = y.d → x ∈ l') → (mdots l' m').filterMap (jpick a b l m) = sjoin (cov a) (cov b) l' m'
  | [], [], _, _, _, _, _, _ => by rw [mdots, sj_end]; rfl
  | [], y :: m', h1, h2, h3, h4, h5, h6 => by
    have q := List.pairwise_cons.1 h2
    have hno : ∀ x ∈ l, x.d ≠ y.d := fun x hx e => by have := h6 y (by simp) x hx e; cases this
    have ih := pick_all (a := a) (b := b) hl hm [] m' h1 q.2 h3 (fun z hz => h4 z (List.mem_cons_of_mem _ hz)) (fun x hx => by cases hx) (fun z hz x hx e => h6 z (List.mem_cons_of_mem _ hz) x hx e)
    rw [mdots, sjoin, List.filterMap_cons, pick_right hm (h4 y (by simp)) hno, ih]
    by_cases hc : cov a y.d = true <;> simp [hc]
  | x :: l', [], h1, h2, h3, h4, h5, h6 => by
    have q := List.pairwise_cons.1 h1
    have hno : ∀ y ∈ m, y.d ≠ x.d := fun y hy e => by have := h5 x (by simp) y hy e; cases this
    have ih := pick_all (a := a) (b := b) hl hm l' [] q.2 h2 (fun z hz => h3 z (List.mem_cons_of_mem _ hz)) h4 (fun z hz y hy e => h5 z (List.mem_cons_of_mem _ hz) y hy e) (fun y hy => by cases hy)
    rw [mdots, sjoin, List.filterMap_cons, pick_left hl (h3 x (by simp)) hno, ih]
    by_cases hc : cov b x.d = true <;> simp [hc]
  | x :: l', y :: m', h1, h2, h3, h4, h5, h6 => by
    have q1 := List.pairwise_cons.1 h1
    have q2 := List.pairwise_cons.1 h2
    have ne_of : ∀ {p q : Dot}, ltD p q = true → p ≠ q := fun h e => by rw [e, ltD_irrefl] at h; cases h
    rcases ltD_tri x.d y.d with ⟨h, hn, hg⟩ | h | ⟨h, hn, hg⟩
    · have hno : ∀ z ∈ m, z.d ≠ x.d := fun z hz e => by
        rcases List.mem_cons.1 (h5 x (by simp) z hz e) with rfl | h7
        · exact hn e.symm
        · have := ltD_trans h (q2.1 z h7); rw [e, ltD_irrefl] at this; cases this
      have ih := pick_all (a := a) (b := b) hl hm l' (y :: m') q1.2 h2 (fun z hz => h3 z (List.mem_cons_of_mem _ hz)) h4 (fun z hz w hw e => h5 z (List.mem_cons_of_mem _ hz) w hw e) (fun z hz w hw e => by
        rcases List.mem_cons.1 (h6 z hz w hw e) with rfl | h7
        · exact absurd (h4 z hz) (fun hz' => hno z hz' e.symm)
        · exact h7)
      rw [mdots, sjoin, if_pos h, if_pos h, List.filterMap_cons, pick_left hl (h3 x (by simp)) hno, ih]
      by_cases hc : cov b x.d = true <;> simp [hc]
    · have ih := pick_all (a := a) (b := b) hl hm l' m' q1.2 q2.2 (fun z hz => h3 z (List.mem_cons_of_mem _ hz)) (fun z hz => h4 z (List.mem_cons_of_mem _ hz)) (fun z hz w hw e => by
          rcases List.mem_cons.1 (h5 z (List.mem_cons_of_mem _ hz) w hw e) with rfl | h7
          · have := q1.1 z hz; rw [h, e] at this; rw [ltD_irrefl] at this; cases this
          · exact h7) (fun z hz w hw e => by
          rcases List.mem_cons.1 (h6 z (List.mem_cons_of_mem _ hz) w hw e) with rfl | h7
          · have := q2.1 z hz; rw [← h, e] at this; rw [ltD_irrefl] at this; cases this
          · exact h7)
      have hi1 : ltD x.d y.d = false := by rw [h, ltD_irrefl]
      have hi2 : ltD y.d x.d = false := by rw [h, ltD_irrefl]
      rw [mdots, sjoin, if_neg (by rw [hi1]; simp), if_neg (by rw [hi2]; simp), if_neg (by rw [hi1]; simp), if_neg (by rw [hi2]; simp), List.filterMap_cons, pick_both hl hm (h3 x (by simp)) (h4 y (by simp)) h, ih]
    · have hno : ∀ z ∈ l, z.d ≠ y.d := fun z hz e => by
        rcases List.mem_cons.1 (h6 y (by simp) z hz e) with rfl | h7
        · exact hn e
        · have := ltD_trans h (q1.1 z h7); rw [e, ltD_irrefl] at this; cases this
      have ih := pick_all (a := a) (b := b) hl hm (x :: l') m' h1 q2.2 h3 (fun z hz => h4 z (List.mem_cons_of_mem _ hz)) (fun z hz w hw e => by
        rcases List.mem_cons.1 (h5 z hz w hw e) with rfl | h7
        · exact absurd (h3 z hz) (fun hz' => hno z hz' e.symm)
        · exact h7) (fun z hz w hw e => h6 z (List.mem_cons_of_mem _ hz) w hw e)
      rw [mdots, sjoin, if_neg (by rw [hg]; simp), if_pos h, if_neg (by rw [hg]; simp), if_pos h, List.filterMap_cons, pick_right hm (h4 y (by simp)) hno, ih]
      by_cases hc : cov a y.d = true <;> simp [hc]
termination_by l' m' => l'.length + m'.length
theorem pick_join {a b : List Dot} {l m : List Sib} (hl : SRis l) (hm : SRis m) : (mdots l m).filterMap (jpick a b l m) = sjoin (cov a) (cov b) l m :=
  pick_all hl hm l m hl hm (fun _ h => h) (fun _ h => h) (fun _ _ y hy _ => hy) (fun _ _ x hx _ => hx)
/-- The join's error and its parts. -/
def joinE (a : List Dot) (l : List Sib) (b : List Dot) (m : List Sib) : Int :=
  if staB a l && staB b m then (if (vmax a b).length ≤ 64 then (if (sjoin (cov a) (cov b) l m).length ≤ 64 then 0 else 82) else 82) else 110
def joinA (a : List Dot) (l : List Sib) (b : List Dot) (m : List Sib) : List Dot := if joinE a l b m = 0 then vmax a b else []
def joinL (a : List Dot) (l : List Sib) (b : List Dot) (m : List Sib) : List Sib := if joinE a l b m = 0 then sjoin (cov a) (cov b) l m else []
end Go.Proofs.Ytljfigikkajlnaa
