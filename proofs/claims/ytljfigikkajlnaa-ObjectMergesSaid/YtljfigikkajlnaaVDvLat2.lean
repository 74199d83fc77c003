/- DERIVED. The join says of each dot the greater of what both say; its laws. No program in sight. -/
import Derived.Test.YtljfigikkajlnaaVDvLat
namespace Go.Proofs.Ytljfigikkajlnaa
set_option linter.unusedVariables false
set_option linter.unusedSimpArgs false
theorem says3 {a : List Dot} {l : List Sib} (h : VS a l) (d : Dot) : (says a l d = (0, zeroS) ∧ cov a d = false ∧ ∀ x ∈ l, x.d ≠ d) ∨ (∃ x ∈ l, x.d = d ∧ says a l d = (1, x) ∧ cov a d = true) ∨ (says a l d = (2, zeroS) ∧ cov a d = true ∧ ∀ x ∈ l, x.d ≠ d) := by
 by_cases hx : ∃ x ∈ l, x.d = d
 · obtain ⟨x, hx, rfl⟩ := hx
   exact .inr (.inl ⟨x, hx, rfl, says_there (sris_of h) hx, ((sta_ok h).2.2 x hx).1⟩)
 · have hn : ∀ x ∈ l, x.d ≠ d := fun x hm he => hx ⟨x, hm, he⟩
   have := says_not (a := a) hn
   rcases hc : cov a d with _ | _
   · exact .inl ⟨by rw [this, hc]; rfl, rfl, hn⟩
   · exact .inr (.inr ⟨by rw [this, hc]; rfl, rfl, hn⟩)
theorem sj_ris {ca cb : Dot → Bool} : ∀ (l m : List Sib), SRis l → SRis m → SRis (sjoin ca cb l m)
 | [], [], _, _ => by rw [sj_end]; exact List.Pairwise.nil
 | [], y :: m, h1, h2 => by
  have q := List.pairwise_cons.1 h2
  have ih := sj_ris (ca := ca) (cb := cb) [] m h1 q.2
  rw [sjoin]
  split
  · exact ih
  · refine List.Pairwise.cons (fun z hz => ?_) ih
    rcases sjoin_mem [] m z hz with hz | hz
    · cases hz
    · exact q.1 z hz
 | x :: l, [], h1, h2 => by
  have q := List.pairwise_cons.1 h1
  have ih := sj_ris (ca := ca) (cb := cb) l [] q.2 h2
  rw [sjoin]
  split
  · exact ih
  · refine List.Pairwise.cons (fun z hz => ?_) ih
    rcases sjoin_mem l [] z hz with hz | hz
    · exact q.1 z hz
    · cases hz
 | x :: l, y :: m, h1, h2 => by
  have q1 := List.pairwise_cons.1 h1
  have q2 := List.pairwise_cons.1 h2
  rw [sjoin]
  split
  · rename_i h
    have ih := sj_ris (ca := ca) (cb := cb) l (y :: m) q1.2 h2
    split
    · exact ih
    · refine List.Pairwise.cons (fun z hz => ?_) ih
      rcases sjoin_mem l (y :: m) z hz with hz | hz
      · exact q1.1 z hz
      · rcases List.mem_cons.1 hz with rfl | hz
        · exact h
        · exact ltD_trans h (q2.1 z hz)
  · split
    · rename_i h
      have ih := sj_ris (ca := ca) (cb := cb) (x :: l) m h1 q2.2
      split
      · exact ih
      · refine List.Pairwise.cons (fun z hz => ?_) ih
        rcases sjoin_mem (x :: l) m z hz with hz | hz
        · rcases List.mem_cons.1 hz with rfl | hz
          · exact h
          · exact ltD_trans h (q1.1 z hz)
        · exact q2.1 z hz
    · rename_i h3 h4
      have hxy : x.d = y.d := by
       rcases ltD_tri x.d y.d with ⟨h, _⟩ | h | ⟨h, _⟩
       · exact absurd h h3
       · exact h
       · exact absurd h h4
      refine List.Pairwise.cons (fun z hz => ?_) (sj_ris l m q1.2 q2.2)
      have hd : (lesS x y).d = x.d := by
       unfold lesS; split
       · exact hxy.symm
       · rfl
      rw [hd]
      rcases sjoin_mem l m z hz with hz | hz
      · exact q1.1 z hz
      · rw [hxy]; exact q2.1 z hz
termination_by l m => l.length + m.length
section
variable {a b : List Dot} {l m : List Sib}
theorem join_zero (h : joinE a l b m = 0) : VS a l ∧ VS b m ∧ (vmax a b).length ≤ 64 ∧ (sjoin (cov a) (cov b) l m).length ≤ 64 ∧ joinA a l b m = vmax a b ∧ joinL a l b m = sjoin (cov a) (cov b) l m := by
 have h0 := h
 unfold joinE at h
 split at h
 · rename_i hv
   rw [Bool.and_eq_true] at hv
   split at h
   · split at h
     · exact ⟨hv.1, hv.2, ‹_›, ‹_›, by rw [joinA, if_pos h0], by rw [joinL, if_pos h0]⟩
     · omega
   · omega
 · omega
theorem join_valid (h : joinE a l b m = 0) : VS (joinA a l b m) (joinL a l b m) := by
 obtain ⟨ha, hb, h1, h2, e1, e2⟩ := join_zero h
 rw [e1, e2]
 refine sta_of (vmax_vec (sta_ok ha).1 (sta_ok hb).1 h1) h2 (fun x hx => ?_) (sj_ris _ _ (sris_of ha) (sris_of hb))
 rw [cov_vmax (sta_ok ha).1 (sta_ok hb).1 h1]
 rcases sjoin_mem _ _ x hx with hx | hx
 · have := (sta_ok ha).2.2 x hx
   exact ⟨by rw [this.1]; rfl, this.2⟩
 · have := (sta_ok hb).2.2 x hx
   exact ⟨by rw [this.1, Bool.or_true], this.2⟩
theorem join_mem (ha : VS a l) (hb : VS b m) (z : Sib) : z ∈ sjoin (cov a) (cov b) l m ↔ ∃ d, ((∃ x ∈ l, x.d = d) ∨ ∃ y ∈ m, y.d = d) ∧ jpick a b l m d = some z := by
 rw [← pick_join (sris_of ha) (sris_of hb), List.mem_filterMap]
 constructor
 · rintro ⟨d, hd, h⟩; exact ⟨d, (mdots_mem l m d).1 hd, h⟩
 · rintro ⟨d, hd, h⟩; exact ⟨d, (mdots_mem l m d).2 hd, h⟩
theorem join_says (h : joinE a l b m = 0) (d : Dot) : says (joinA a l b m) (joinL a l b m) d = smax (says a l d) (says b m d) := by
 have hv := join_valid h
 obtain ⟨ha, hb, h1, h2, e1, e2⟩ := join_zero h
 rw [e1, e2] at hv ⊢
 have hc := cov_vmax (sta_ok ha).1 (sta_ok hb).1 h1 d
 have there : ∀ z, ((∃ x ∈ l, x.d = d) ∨ ∃ y ∈ m, y.d = d) → jpick a b l m d = some z → z.d = d → says (vmax a b) (sjoin (cov a) (cov b) l m) d = (1, z) := fun z hz hp hd => by
  have := says_there (a := vmax a b) (sris_of hv) ((join_mem ha hb z).2 ⟨d, hz, hp⟩)
  rw [hd] at this; exact this
 have pdot : ∀ e z, ((∃ x ∈ l, x.d = e) ∨ ∃ y ∈ m, y.d = e) → jpick a b l m e = some z → z.d = e := fun e z hz hp => by
  have k1 := says3 ha e
  have k2 := says3 hb e
  unfold jpick at hp
  rcases k1 with ⟨s1, _, n1⟩ | ⟨x, hx, hxd, s1, _⟩ | ⟨s1, _, _⟩ <;> rcases k2 with ⟨s2, _, n2⟩ | ⟨y, hy, hyd, s2, _⟩ | ⟨s2, _, _⟩ <;> rw [s1, s2] at hp <;> simp at hp
  · rcases hz with ⟨x, hx, e1⟩ | ⟨y, hy, e1⟩
    · exact absurd e1 (n1 x hx)
    · exact absurd e1 (n2 y hy)
  · rw [← hp]; exact hyd
  · rw [← hp]; exact hxd
  · split at hp
    · injection hp with hp; rw [← hp]; exact hyd
    · injection hp with hp; rw [← hp]; exact hxd
 have gone : jpick a b l m d = none ∨ (∀ x ∈ l, x.d ≠ d) ∧ (∀ y ∈ m, y.d ≠ d) → says (vmax a b) (sjoin (cov a) (cov b) l m) d = if cov a d || cov b d then (2, zeroS) else (0, zeroS) := fun hn => by
  rw [says_not, hc]
  intro z hz hd
  obtain ⟨e, he, hp⟩ := (join_mem ha hb z).1 hz
  have := pdot e z he hp
  have hed : e = d := this.symm.trans hd
  subst hed
  rcases hn with hn | ⟨n1, n2⟩
  · rw [hn] at hp; cases hp
  · rcases he with ⟨x, hx, e1⟩ | ⟨y, hy, e1⟩
    · exact n1 x hx e1
    · exact n2 y hy e1
 rcases says3 ha d with ⟨s1, c1, n1⟩ | ⟨x, hx, hxd, s1, c1⟩ | ⟨s1, c1, n1⟩ <;> rcases says3 hb d with ⟨s2, c2, n2⟩ | ⟨y, hy, hyd, s2, c2⟩ | ⟨s2, c2, n2⟩
 · rw [gone (.inr ⟨n1, n2⟩), s1, s2, c1, c2]; simp [smax]
 · rw [there y (.inr ⟨y, hy, hyd⟩) (by unfold jpick; rw [s1, s2]; simp) hyd, s1, s2]; simp [smax]
 · rw [gone (.inr ⟨n1, n2⟩), s1, s2, c1, c2]; simp [smax]
 · rw [there x (.inl ⟨x, hx, hxd⟩) (by unfold jpick; rw [s1, s2]; simp) hxd, s1, s2]; simp [smax]
 · have hp : jpick a b l m d = some (if lesB y x then y else x) := by
    unfold jpick; rw [s1, s2]; rcases lesB y x with _ | _ <;> simp
   rw [there _ (.inl ⟨x, hx, hxd⟩) hp (by split; exact hyd; exact hxd), s1, s2]
   unfold smax
   rcases les_or x y with ⟨h3, h4⟩ | ⟨h3, h4⟩ | ⟨h3, h4, h5, h6⟩
   · rw [if_neg (by rw [h4]; simp), if_pos (.inr ⟨rfl, rfl, h3⟩)]
   · rw [if_pos h3, if_neg (by simp [h4])]
   · rw [if_neg (by rw [h4]; simp), if_neg (by simp [h3]), les_eq' (hxd.trans hyd.symm) h3 h4]
 · rw [gone (.inl (by unfold jpick; rw [s1, s2]; simp)), s1, s2, c1, c2]; simp [smax]
 · rw [gone (.inr ⟨n1, n2⟩), s1, s2, c1, c2]; simp [smax]
 · rw [gone (.inl (by unfold jpick; rw [s1, s2]; simp)), s1, s2, c1, c2]; simp [smax]
 · rw [gone (.inr ⟨n1, n2⟩), s1, s2, c1, c2]; simp [smax]
end
theorem vmax_self : ∀ a : List Dot, vmax a a = a
 | [] => by rw [vmax_nil_left]
 | x :: a => by
  rw [vmax, if_neg (by omega), if_neg (by omega), vmax_self a]
  cases x; simp
theorem sj_self (ca cb : Dot → Bool) : ∀ l : List Sib, sjoin ca cb l l = l
 | [] => sj_end _ _
 | x :: l => by
  rw [sjoin, if_neg (by rw [ltD_irrefl]; simp), if_neg (by rw [ltD_irrefl]; simp), sj_self ca cb l]
  unfold lesS
  split <;> rfl
theorem sj_nil {ca cb : Dot → Bool} (h : ∀ d, cb d = false) : ∀ l : List Sib, sjoin ca cb l [] = l
 | [] => sj_end _ _
 | x :: l => by rw [sjoin, h, sj_nil h l]; rfl
theorem sta_nil : staB [] [] = true := by decide
theorem join_self {a : List Dot} {l : List Sib} (h : VS a l) : joinE a l a l = 0 ∧ joinA a l a l = a ∧ joinL a l a l = l := by
 have h1 := join_ok h h (by rw [vmax_self]; exact vec_len (sta_ok h).1) (by rw [sj_self]; exact (sta_ok h).2.1)
 rw [vmax_self, sj_self] at h1
 exact h1
theorem join_nil {a : List Dot} {l : List Sib} (h : VS a l) : joinE a l [] [] = 0 ∧ joinA a l [] [] = a ∧ joinL a l [] [] = l := by
 have hc : ∀ d, cov [] d = false := fun d => by simp [cov, cnt, look, vec_nil]; omega
 have h1 := join_ok h sta_nil (by rw [vmax_nil_right]; exact vec_len (sta_ok h).1) (by rw [sj_nil hc]; exact (sta_ok h).2.1)
 rw [vmax_nil_right, sj_nil hc] at h1
 exact h1
theorem vmax_comm {a b : List Dot} (ha : vecB a = true) (hb : vecB b = true) : vmax a b = vmax b a := by
 have p1 : ∀ d ∈ a, 1 ≤ d.n := fun d hd => (vec_ok ha d hd).1
 have p2 : ∀ d ∈ b, 1 ≤ d.n := fun d hd => (vec_ok hb d hd).1
 refine look_ext (vmax_ris _ _ (vec_ris ha) (vec_ris hb)) (vmax_ris _ _ (vec_ris hb) (vec_ris ha)) (fun d hd => (vmax_ok ha hb d hd).1) (fun d hd => (vmax_ok hb ha d hd).1) fun k => ?_
 rw [vmax_look a b (vec_ris ha) (vec_ris hb) p1 p2, vmax_look b a (vec_ris hb) (vec_ris ha) p2 p1]; omega
theorem les_comm {x y : Sib} (h : x.d = y.d) : lesS x y = lesS y x := by
 unfold lesS
 rcases les_or x y with ⟨h1, h2⟩ | ⟨h1, h2⟩ | ⟨h1, h2, _⟩
 · rw [if_neg (by rw [h2]; simp), if_pos h1]
 · rw [if_pos h1, if_neg (by rw [h2]; simp)]
 · rw [if_neg (by rw [h2]; simp), if_neg (by rw [h1]; simp)]; exact les_eq' h h1 h2
theorem sj_comm (ca cb : Dot → Bool) : ∀ l m : List Sib, sjoin ca cb l m = sjoin cb ca m l
 | [], [] => by rw [sj_end, sj_end]
 | [], y :: m => by rw [sjoin, sjoin, sj_comm ca cb [] m]
 | x :: l, [] => by rw [sjoin, sjoin, sj_comm ca cb l []]
 | x :: l, y :: m => by
  rw [sjoin, sjoin]
  rcases ltD_tri x.d y.d with ⟨h, _, h2⟩ | h | ⟨h, _, h2⟩
  · have e : ¬ltD y.d x.d = true := by rw [h2]; simp
    rw [if_pos h, if_neg e, if_pos h, sj_comm ca cb l (y :: m)]
  · have i1 : ltD x.d y.d = false := by rw [h, ltD_irrefl]
    have i2 : ltD y.d x.d = false := by rw [h, ltD_irrefl]
    have e1 : ¬ltD x.d y.d = true := by rw [i1]; simp
    have e2 : ¬ltD y.d x.d = true := by rw [i2]; simp
    rw [if_neg e1, if_neg e2, if_neg e2, if_neg e1, les_comm h, sj_comm ca cb l m]
  · have e : ¬ltD x.d y.d = true := by rw [h2]; simp
    rw [if_neg e, if_pos h, if_pos h, sj_comm ca cb (x :: l) m]
termination_by l m => l.length + m.length
theorem joinE_comm (a b : List Dot) (l m : List Sib) : joinE a l b m = joinE b m a l := by
 unfold joinE
 rw [Bool.and_comm]
 split
 · rename_i h
   rw [Bool.and_eq_true] at h
   rw [vmax_comm (sta_ok h.2).1 (sta_ok h.1).1, sj_comm]
 · rfl
theorem join_comm (a b : List Dot) (l m : List Sib) : joinE a l b m = joinE b m a l ∧ joinA a l b m = joinA b m a l ∧ joinL a l b m = joinL b m a l := by
 refine ⟨joinE_comm a b l m, ?_, ?_⟩
 · unfold joinA
   rw [joinE_comm a b l m]
   split
   · rename_i h
     have := join_zero h
     exact vmax_comm (sta_ok this.2.1).1 (sta_ok this.1).1
   · rfl
 · unfold joinL
   rw [joinE_comm a b l m]
   split
   · exact sj_comm _ _ _ _
   · rfl
section
variable {a b c : List Dot} {l m n : List Sib}
theorem bel_trans (h : belS a l b m = true) (k : belS b m c n = true) : belS a l c n = true := by
 rw [belS_iff] at *
 exact ⟨h.1, k.2.1, fun d => leP_trans (h.2.2 d) (k.2.2 d)⟩
theorem bel_anti (h : belS a l b m = true) : belS b m a l = stEq a l b m := by
 have h' := belS_iff.1 h
 rw [Bool.eq_iff_iff, belS_iff]
 simp only [stEq, Bool.and_eq_true, decide_eq_true_eq]
 constructor
 · rintro ⟨_, _, k⟩
   exact state_ext h'.1 h'.2.1 fun d => say_anti h'.1 h'.2.1 d (h'.2.2 d) (k d)
 · rintro ⟨rfl, rfl⟩
   exact ⟨h'.1, h'.1, fun d => leP_refl _⟩
theorem blj_left (h : joinE a l b m = 0) : belS a l (joinA a l b m) (joinL a l b m) = true := belS_iff.2 ⟨(join_zero h).1, join_valid h, fun d => by rw [join_says h]; exact smax_left _ _⟩
theorem blj_right (h : joinE a l b m = 0) : belS b m (joinA a l b m) (joinL a l b m) = true := belS_iff.2 ⟨(join_zero h).2.1, join_valid h, fun d => by rw [join_says h]; exact smax_right _ _⟩
theorem bel_lub (h : joinE a l b m = 0) (h1 : belS a l c n = true) (h2 : belS b m c n = true) : belS (joinA a l b m) (joinL a l b m) c n = true := by
 rw [belS_iff] at *
 exact ⟨join_valid h, h1.2.1, fun d => by rw [join_says h]; exact smax_lub (h1.2.2 d) (h2.2.2 d)⟩
theorem join_assoc (h1 : joinE a l b m = 0) (h2 : joinE (joinA a l b m) (joinL a l b m) c n = 0) (h3 : joinE b m c n = 0) (h4 : joinE a l (joinA b m c n) (joinL b m c n) = 0) :
 stEq (joinA (joinA a l b m) (joinL a l b m) c n) (joinL (joinA a l b m) (joinL a l b m) c n) (joinA a l (joinA b m c n) (joinL b m c n)) (joinL a l (joinA b m c n) (joinL b m c n)) = true := by
 have b1 := blj_left h1
 have b2 := blj_right h1
 have b3 := blj_left h2
 have b4 := blj_right h2
 have b5 := blj_left h3
 have b6 := blj_right h3
 have b7 := blj_left h4
 have b8 := blj_right h4
 have k1 := bel_lub h2 (bel_lub h1 b7 (bel_trans b5 b8)) (bel_trans b6 b8)
 have k2 := bel_lub h4 (bel_trans b1 b3) (bel_lub h3 (bel_trans b2 b3) b4)
 have := bel_anti k1
 rw [k2] at this
 exact this.symm
end
end Go.Proofs.Ytljfigikkajlnaa
