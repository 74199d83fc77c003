/- DERIVED. States as what they say of each dot: the join is the greater of both, Below is 'no less of each dot'. No program in sight. -/
import Derived.Test.YtljfigikkajlnaaVDvPutP
namespace Go.Proofs.Ytljfigikkajlnaa
set_option linter.unusedVariables false
set_option linter.unusedSimpArgs false
/-- A state that may be. -/
abbrev VS (a : List Dot) (l : List Sib) : Prop := staB a l = true
theorem les_or (x y : Sib) : (lesB x y = true ∧ lesB y x = false) ∨ (lesB y x = true ∧ lesB x y = false) ∨ (lesB x y = false ∧ lesB y x = false ∧ x.gone = y.gone ∧ x.v = y.v) := by
 unfold lesB
 rcases hx : x.gone with _ | _ <;> rcases hy : y.gone with _ | _
 · rcases ltK_tri x.v y.v with ⟨h1, _, h2⟩ | h | ⟨h1, _, h2⟩
   · left; simp [h1, h2]
   · right; right; simp [h, ltK_irrefl]
   · right; left; simp [h1, h2]
 · right; left; simp
 · left; simp
 · rcases ltK_tri x.v y.v with ⟨h1, _, h2⟩ | h | ⟨h1, _, h2⟩
   · left; simp [h1, h2]
   · right; right; simp [h, ltK_irrefl]
   · right; left; simp [h1, h2]
theorem les_eq' {x y : Sib} (hd : x.d = y.d) (h1 : lesB x y = false) (h2 : lesB y x = false) : x = y := by
 rcases les_or x y with ⟨h, _⟩ | ⟨h, _⟩ | ⟨_, _, h3, h4⟩
 · rw [h1] at h; cases h
 · rw [h2] at h; cases h
 · cases x; cases y; simp only at hd h3 h4; rw [hd, h3, h4]
theorem les_trans {x y z : Sib} (h1 : lesB x y = false) (h2 : lesB y z = false) : lesB x z = false := by
 revert h1 h2
 unfold lesB
 rcases x.gone with _ | _ <;> rcases y.gone with _ | _ <;> rcases z.gone with _ | _ <;> simp
 all_goals
  intro h1 h2
  rcases ltK_tri x.v y.v with ⟨h3, _⟩ | h3 | ⟨h3, _⟩
  · rw [h1] at h3; cases h3
  · rw [h3]; exact h2
  · rcases ltK_tri y.v z.v with ⟨h4, _⟩ | h4 | ⟨h4, _⟩
    · rw [h2] at h4; cases h4
    · rw [← h4]; exact h1
    · exact ltK_asymm (ltK_trans h4 h3)
theorem cov_vmax {a b : List Dot} (ha : vecB a = true) (hb : vecB b = true) (h : (vmax a b).length ≤ 64) (d : Dot) : cov (vmax a b) d = (cov a d || cov b d) := by
 rw [Bool.eq_iff_iff, Bool.or_eq_true, cov_vec (vmax_vec ha hb h), cov_vec ha, cov_vec hb, vmax_look a b (vec_ris ha) (vec_ris hb) (fun d hd => (vec_ok ha d hd).1) (fun d hd => (vec_ok hb d hd).1)]
 omega
theorem vec_ext {a b : List Dot} (ha : vecB a = true) (hb : vecB b = true) (h : ∀ d, cov a d = cov b d) : a = b := by
 refine look_ext (vec_ris ha) (vec_ris hb) (fun d hd => (vec_ok ha d hd).1) (fun d hd => (vec_ok hb d hd).1) fun k => ?_
 have key : ∀ n, 1 ≤ n → (n ≤ look a k ↔ n ≤ look b k) := fun n hn => by
  have := h ⟨k, n⟩
  rw [Bool.eq_iff_iff, cov_vec ha, cov_vec hb] at this
  constructor
  · intro h1; exact (this.1 ⟨hn, h1⟩).2
  · intro h1; exact (this.2 ⟨hn, h1⟩).2
 have h1 := look_bound ha k
 have h2 := look_bound hb k
 rcases Int.lt_trichotomy (look a k) (look b k) with h3 | h3 | h3
 · have := (key (look b k) (by omega)).2 (Int.le_refl _); omega
 · exact h3
 · have := (key (look a k) (by omega)).1 (Int.le_refl _); omega
theorem vbel_iff {a b : List Dot} (ha : vecB a = true) (hb : vecB b = true) : vbel a b = true ↔ ∀ d, cov a d = true → cov b d = true := by
 unfold vbel
 rw [ha, hb]
 simp only [Bool.true_and, List.all_eq_true, decide_eq_true_eq]
 constructor
 · intro h d hd
   rw [cov_vec ha] at hd
   rw [cov_vec hb]
   rcases look_cases a d.a with ⟨h1, _⟩ | ⟨e, he, h1, h2⟩
   · omega
   · have := h e he; rw [h1] at this; omega
 · intro h d hd
   have h1 := look_mem (vec_ris ha) hd
   have h2 := (cov_vec hb d).1 (h d ((cov_vec ha d).2 ⟨(vec_ok ha d hd).1, by omega⟩))
   exact h2.2
theorem sris_ext : ∀ {l m : List Sib}, SRis l → SRis m → (∀ x, x ∈ l ↔ x ∈ m) → l = m
 | [], [], _, _, _ => rfl
 | [], y :: m, _, _, h => by have := (h y).2 (by simp); cases this
 | x :: l, [], _, _, h => by have := (h x).1 (by simp); cases this
 | x :: l, y :: m, h1, h2, h => by
  have q1 := List.pairwise_cons.1 h1
  have q2 := List.pairwise_cons.1 h2
  have hxy : x = y := by
   rcases List.mem_cons.1 ((h x).1 (by simp)) with h3 | h3
   · exact h3
   · rcases List.mem_cons.1 ((h y).2 (by simp)) with h4 | h4
     · exact h4.symm
     · have := ltD_trans (q1.1 y h4) (q2.1 x h3); rw [ltD_irrefl] at this; cases this
  subst hxy
  congr 1
  refine sris_ext q1.2 q2.2 fun d => ?_
  constructor
  · intro hd
    rcases List.mem_cons.1 ((h d).1 (List.mem_cons_of_mem _ hd)) with rfl | h3
    · have := q1.1 d hd; rw [ltD_irrefl] at this; cases this
    · exact h3
  · intro hd
    rcases List.mem_cons.1 ((h d).2 (List.mem_cons_of_mem _ hd)) with rfl | h3
    · have := q2.1 d hd; rw [ltD_irrefl] at this; cases this
    · exact h3
/-- What a state may say of a dot. -/
inductive Sayd (a : List Dot) (l : List Sib) (d : Dot) : Int × Sib → Prop
 | un (h1 : cov a d = false) (h2 : ∀ x ∈ l, x.d ≠ d) : Sayd a l d (0, zeroS)
 | at_ (x : Sib) (h1 : x ∈ l) (h2 : x.d = d) (h3 : cov a d = true) : Sayd a l d (1, x)
 | ov (h1 : cov a d = true) (h2 : ∀ x ∈ l, x.d ≠ d) : Sayd a l d (2, zeroS)
theorem sayd {a : List Dot} {l : List Sib} (h : VS a l) (d : Dot) : Sayd a l d (says a l d) := by
 by_cases hx : ∃ x ∈ l, x.d = d
 · obtain ⟨x, hx, rfl⟩ := hx
   rw [says_there (sris_of h) hx]
   exact .at_ x hx rfl ((sta_ok h).2.2 x hx).1
 · have hn : ∀ x ∈ l, x.d ≠ d := fun x hm he => hx ⟨x, hm, he⟩
   rw [says_not hn]
   rcases hc : cov a d with _ | _
   · exact .un hc hn
   · exact .ov hc hn
def leP (p q : Int × Sib) : Prop := p.1 < q.1 ∨ (p.1 = q.1 ∧ (p.1 = 1 → lesB p.2 q.2 = false))
def smax (p q : Int × Sib) : Int × Sib := if q.1 < p.1 ∨ (p.1 = q.1 ∧ p.1 = 1 ∧ lesB p.2 q.2 = true) then p else q
theorem leP_refl (p : Int × Sib) : leP p p := .inr ⟨rfl, fun _ => by
 rcases les_or p.2 p.2 with ⟨_, h2⟩ | ⟨_, h2⟩ | ⟨h2, _⟩ <;> exact h2⟩
theorem leP_trans {p q r : Int × Sib} (h : leP p q) (k : leP q r) : leP p r := by
 unfold leP at *
 rcases h with h | ⟨h1, h2⟩
 · rcases k with k | ⟨k1, k2⟩
   · left; omega
   · left; omega
 · rcases k with k | ⟨k1, k2⟩
   · left; omega
   · right; exact ⟨by omega, fun h3 => les_trans (h2 h3) (k2 (by omega))⟩
theorem smax_cases (p q : Int × Sib) : (smax p q = p ∧ leP q p ∧ ¬ leP p q) ∨ (smax p q = q ∧ leP p q) := by
 unfold smax leP
 by_cases h : q.1 < p.1 ∨ (p.1 = q.1 ∧ p.1 = 1 ∧ lesB p.2 q.2 = true)
 · rw [if_pos h]
   refine .inl ⟨rfl, ?_, ?_⟩
   · rcases h with h | ⟨h1, h2, h3⟩
     · exact .inl h
     · refine .inr ⟨h1.symm, fun _ => ?_⟩
       rcases les_or p.2 q.2 with ⟨_, h4⟩ | ⟨_, h4⟩ | ⟨h4, _⟩
       · exact h4
       · rw [h3] at h4; cases h4
       · rw [h3] at h4; cases h4
   · rintro (k | ⟨k1, k2⟩)
     · rcases h with h | ⟨h1, _⟩ <;> omega
     · rcases h with h | ⟨h1, h2, h3⟩
       · omega
       · rw [k2 h2] at h3; cases h3
 · rw [if_neg h]
   refine .inr ⟨rfl, ?_⟩
   rcases Int.lt_trichotomy p.1 q.1 with h1 | h1 | h1
   · exact .inl h1
   · refine .inr ⟨h1, fun h2 => ?_⟩
     rcases h3 : lesB p.2 q.2 with _ | _
     · rfl
     · exact absurd (.inr ⟨h1, h2, h3⟩) h
   · exact absurd (.inl h1) h
theorem smax_left (p q : Int × Sib) : leP p (smax p q) := by
 rcases smax_cases p q with ⟨h, _⟩ | ⟨h, h1⟩
 · rw [h]; exact leP_refl p
 · rw [h]; exact h1
theorem smax_right (p q : Int × Sib) : leP q (smax p q) := by
 rcases smax_cases p q with ⟨h, h1, _⟩ | ⟨h, _⟩
 · rw [h]; exact h1
 · rw [h]; exact leP_refl q
theorem smax_lub {p q r : Int × Sib} (h1 : leP p r) (h2 : leP q r) : leP (smax p q) r := by
 rcases smax_cases p q with ⟨h, _⟩ | ⟨h, _⟩ <;> rw [h]
 · exact h1
 · exact h2
/-- Two sayings of one dot that are no less than each other are one. -/
theorem say_anti {a b : List Dot} {l m : List Sib} (ha : VS a l) (hb : VS b m) (d : Dot) (h1 : leP (says a l d) (says b m d)) (h2 : leP (says b m d) (says a l d)) : says a l d = says b m d := by
 have k1 := sayd ha d
 have k2 := sayd hb d
 revert h1 h2
 generalize says a l d = p at *
 generalize says b m d = q at *
 intro h1 h2
 unfold leP at h1 h2
 have e : p.1 = q.1 := by omega
 cases k1 with
 | un _ _ =>
  cases k2 with
  | un _ _ => rfl
  | at_ y _ _ _ => simp at e
  | ov _ _ => simp at e
 | at_ x hx hd _ =>
  cases k2 with
  | un _ _ => simp at e
  | at_ y hy he _ =>
   simp only [Int.lt_irrefl, false_or, true_and, forall_const] at h1 h2
   rw [les_eq' (hd.trans he.symm) h1 h2]
  | ov _ _ => simp at e
 | ov _ _ =>
  cases k2 with
  | un _ _ => simp at e
  | at_ y _ _ _ => simp at e
  | ov _ _ => rfl
/-- A state is what it says. -/
theorem state_ext {a b : List Dot} {l m : List Sib} (ha : VS a l) (hb : VS b m) (h : ∀ d, says a l d = says b m d) : a = b ∧ l = m := by
 have hc : ∀ (a : List Dot) (l : List Sib), VS a l → ∀ d, cov a d = true ↔ (says a l d).1 ≠ 0 := fun a l ha d => by
  have := sayd ha d
  generalize says a l d = p at this
  cases this with
  | un h1 _ => rw [h1]; simp
  | at_ _ _ _ h1 => rw [h1]; simp
  | ov h1 _ => rw [h1]; simp
 have hm : ∀ (a : List Dot) (l : List Sib), VS a l → ∀ x, x ∈ l ↔ says a l x.d = (1, x) := fun a l ha x => by
  constructor
  · exact fun hx => says_there (sris_of ha) hx
  · intro hx
    have := sayd ha x.d
    rw [hx] at this
    cases this with
    | at_ _ h1 _ _ => exact h1
 constructor
 · refine vec_ext (sta_ok ha).1 (sta_ok hb).1 fun d => ?_
   rw [Bool.eq_iff_iff, hc a l ha, hc b m hb, h]
 · refine sris_ext (sris_of ha) (sris_of hb) fun x => ?_
   rw [hm a l ha, hm b m hb, h]
/-- Below, as the program has it. -/
def belS (a : List Dot) (l : List Sib) (b : List Dot) (m : List Sib) : Bool :=
 staB a l && staB b m && vbel a b && m.all fun y => !cov a y.d || l.any fun x => decide (x.d = y.d) && decide (lesS x y = y)
theorem les_self (x y : Sib) (hd : x.d = y.d) : lesS x y = y ↔ lesB x y = false := by
 unfold lesS
 rcases les_or x y with ⟨h1, h2⟩ | ⟨h1, h2⟩ | ⟨h1, h2, h3, h4⟩
 · rw [if_neg (by rw [h2]; simp), h1]
   constructor
   · intro e; rw [e] at h1 h2; rw [h1] at h2; cases h2
   · intro e; cases e
 · rw [if_pos h1, h2]; simp
 · rw [if_neg (by rw [h2]; simp), h1]
   exact ⟨fun _ => rfl, fun _ => les_eq' hd h1 h2⟩
theorem belS_iff {a b : List Dot} {l m : List Sib} : belS a l b m = true ↔ VS a l ∧ VS b m ∧ ∀ d, leP (says a l d) (says b m d) := by
 unfold belS
 simp only [Bool.and_eq_true, List.all_eq_true, Bool.or_eq_true, Bool.not_eq_true', List.any_eq_true, decide_eq_true_eq]
 constructor
 · rintro ⟨⟨⟨h1, h2⟩, h3⟩, h4⟩
   refine ⟨h1, h2, fun d => ?_⟩
   rw [vbel_iff (sta_ok h1).1 (sta_ok h2).1] at h3
   have k1 := sayd h1 d
   have k2 := sayd h2 d
   generalize says a l d = p at *
   generalize says b m d = q at *
   unfold leP
   cases k1 with
   | un _ _ =>
    cases k2 with
    | un _ _ => right; exact ⟨rfl, fun h => by simp at h⟩
    | at_ y _ _ _ => left; simp
    | ov _ _ => left; simp
   | at_ x hx hd hc =>
    cases k2 with
    | un hc2 _ => rw [h3 d hc] at hc2; cases hc2
    | at_ y hy he _ =>
     right
     refine ⟨rfl, fun _ => ?_⟩
     rcases h4 y hy with h5 | ⟨z, hz, hzd, hzl⟩
     · rw [he, hc] at h5; cases h5
     · have hzx : z = x := by
        have e1 := says_there (a := a) (sris_of h1) hz
        have e2 := says_there (a := a) (sris_of h1) hx
        rw [hzd, he, ← hd, e2] at e1
        injection e1 with _ e1; exact e1.symm
       subst hzx
       exact (les_self _ _ hzd).1 hzl
    | ov _ _ => left; simp
   | ov hc hn =>
    cases k2 with
    | un hc2 _ => rw [h3 d hc] at hc2; cases hc2
    | at_ y hy he _ =>
     rcases h4 y hy with h5 | ⟨z, hz, hzd, _⟩
     · rw [he, hc] at h5; cases h5
     · exact absurd (hzd.trans he) (hn z hz)
    | ov _ _ => right; exact ⟨rfl, fun h => by simp at h⟩
 · rintro ⟨h1, h2, h3⟩
   have hv : ∀ d, cov a d = true → cov b d = true := fun d hd => by
    have k1 := sayd h1 d
    have k2 := sayd h2 d
    have k3 := h3 d
    generalize says a l d = p at *
    generalize says b m d = q at *
    cases k2 with
    | un hc _ =>
     cases k1 with
     | un h _ => rw [hd] at h; cases h
     | at_ _ _ _ _ => simp [leP] at k3
     | ov _ _ => simp [leP] at k3
    | at_ _ _ _ hc => exact hc
    | ov hc _ => exact hc
   refine ⟨⟨⟨h1, h2⟩, (vbel_iff (sta_ok h1).1 (sta_ok h2).1).2 hv⟩, fun y hy => ?_⟩
   rcases hc : cov a y.d with _ | _
   · exact .inl rfl
   · right
     have k1 := sayd h1 y.d
     have k3 := h3 y.d
     rw [says_there (sris_of h2) hy] at k3
     generalize says a l y.d = p at *
     cases k1 with
     | un h _ => rw [hc] at h; cases h
     | at_ x hx hd _ =>
      refine ⟨x, hx, hd, (les_self _ _ hd).2 ?_⟩
      simpa [leP] using k3
     | ov _ _ => simp [leP] at k3
end Go.Proofs.Ytljfigikkajlnaa
