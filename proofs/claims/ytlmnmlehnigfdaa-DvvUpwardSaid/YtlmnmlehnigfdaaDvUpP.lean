/- DERIVED. A put goes upward: the plain law. No program in sight. -/
import Derived.Test.YtlmnmlehnigfdaaDvLat2
namespace Go.Proofs.Ytlmnmlehnigfdaa
set_option linter.unusedVariables false
set_option linter.unusedSimpArgs false

theorem ins_split {x : Sib} : ∀ (L : List Sib), ∃ p, p ≤ L.length ∧ L.take p ++ x :: L.drop p = insS x L
  | [] => ⟨0, Nat.le_refl _, by simp [insS]⟩
  | y :: L => by
    rcases h : ltD y.d x.d with _ | _
    · exact ⟨0, Nat.zero_le _, by rw [ins_here h]; rfl⟩
    · obtain ⟨p, hp, he⟩ := ins_split (x := x) L
      exact ⟨p + 1, by simpa using hp, by rw [ins_cons h, ← he]; rfl⟩
theorem ins_ris {x : Sib} : ∀ {L : List Sib}, SRis L → (∀ y ∈ L, y.d ≠ x.d) → SRis (insS x L)
  | [], _, _ => by simp [insS, SRis]
  | y :: L, h, hn => by
    have q := List.pairwise_cons.1 h
    rcases hy : ltD y.d x.d with _ | _
    · rw [ins_here hy]
      have hxy : ltD x.d y.d = true := by
        rcases ltD_tri x.d y.d with ⟨h1, _⟩ | h1 | ⟨h1, _⟩
        · exact h1
        · exact absurd h1.symm (hn y (by simp))
        · rw [hy] at h1; cases h1
      refine List.Pairwise.cons (fun z hz => ?_) h
      rcases List.mem_cons.1 hz with rfl | hz
      · exact hxy
      · exact ltD_trans hxy (q.1 z hz)
    · rw [ins_cons hy]
      refine List.Pairwise.cons (fun z hz => ?_) (ins_ris q.2 (fun z hz => hn z (List.mem_cons_of_mem _ hz)))
      rcases ins_mem.1 hz with rfl | hz
      · exact hy
      · exact q.1 z hz
section
variable {s ctx : List Dot} {l : List Sib} {a : Int} {v : ByteArray} {g : Bool}
/-- What a put that is made does. -/
structure PutUp (s : List Dot) (l : List Sib) (ctx : List Dot) (a : Int) (v : ByteArray) (g : Bool) : Prop where
  sta : staB s l = true
  ctxv : vecB ctx = true
  hA : putA s l ctx a v g = vmax (vmax s ctx) [putDot s ctx a]
  hL : putL s l ctx a v g = insS (putX s ctx a v g) (keepS ctx l)
  hD : putD s l ctx a v g = putDot s ctx a
  valid : staB (putA s l ctx a v g) (putL s l ctx a v g) = true
  cov_t : ∀ d, cov (putA s l ctx a v g) d = ((cov s d || cov ctx d) || cov [putDot s ctx a] d)
  cov_s : cov s (putDot s ctx a) = false
  cov_c : cov ctx (putDot s ctx a) = false
  cov_d : cov (putA s l ctx a v g) (putDot s ctx a) = true
  below : belS s l (putA s l ctx a v g) (putL s l ctx a v g) = true
  other : stEq s l (putA s l ctx a v g) (putL s l ctx a v g) = false
  ctxb : vbel ctx (putA s l ctx a v g) = true
theorem put_up (h : putE s l ctx a v g = 0) : PutUp s l ctx a v g := by
  obtain ⟨h1, h2, h3, h4, h5, h6, h7⟩ := put_zero h
  have hb := putN_bound s ctx a
  have sv := (sta_ok h1).1
  have hA : putA s l ctx a v g = vmax (vmax s ctx) [putDot s ctx a] := by rw [putA, if_pos h]
  have hL : putL s l ctx a v g = insS (putX s ctx a v g) (keepS ctx l) := by rw [putL, if_pos h]
  have hD : putD s l ctx a v g = putDot s ctx a := by rw [putD, if_pos h]
  have dv : vecB [putDot s ctx a] = true := dot_vec (by show 1 ≤ putN s ctx a + 1; omega) (by show putN s ctx a + 1 ≤ _; omega)
  have mv := vmax_vec sv h2 h5
  have tv : vecB (putA s l ctx a v g) = true := by rw [hA]; exact vmax_vec mv dv h6
  have hcov : ∀ d, cov (putA s l ctx a v g) d = ((cov s d || cov ctx d) || cov [putDot s ctx a] d) := fun d => by
    rw [hA, cov_vmax mv dv h6, cov_vmax sv h2 h5]
  have over : ∀ b : List Dot, cnt b a ≤ putN s ctx a → cov b (putDot s ctx a) = false := fun b hb => by
    unfold cov
    simp only [Bool.and_eq_false_iff, decide_eq_false_iff_not]
    right
    show ¬ putN s ctx a + 1 ≤ cnt b a
    omega
  have cs : cov s (putDot s ctx a) = false := over s (by unfold putN; omega)
  have cc : cov ctx (putDot s ctx a) = false := over ctx (by unfold putN; omega)
  have cd1 : cov [putDot s ctx a] (putDot s ctx a) = true := by
    rw [cov_vec dv]
    refine ⟨by show 1 ≤ putN s ctx a + 1; omega, ?_⟩
    have := look_mem (vec_ris dv) (show putDot s ctx a ∈ [putDot s ctx a] by simp)
    omega
  have cd : cov (putA s l ctx a v g) (putDot s ctx a) = true := by rw [hcov, cd1]; simp
  have hn : ∀ y ∈ keepS ctx l, y.d ≠ (putX s ctx a v g).d := fun y hy => put_new h1 y (keep_mem.1 hy).1
  have ris : SRis (putL s l ctx a v g) := by rw [hL]; exact ins_ris (keep_ris (sris_of h1)) hn
  have valid : staB (putA s l ctx a v g) (putL s l ctx a v g) = true := sta_of tv (by rw [hL]; exact h7) (fun x hx => by
    rw [hL] at hx
    rcases ins_mem.1 hx with rfl | hx
    · refine ⟨cd, ?_⟩
      unfold valB at h3
      simp only [Bool.and_eq_true, decide_eq_true_eq, Bool.not_eq_true', Bool.and_eq_false_iff, decide_eq_false_iff_not] at h3
      refine ⟨h3.1, ?_⟩
      rcases h3.2 with h | h
      · exact fun e => absurd (show g = true from e) (by rw [h]; simp)
      · exact fun _ => by
          have : v.size = 0 := by omega
          exact this
    · have := (sta_ok h1).2.2 x (keep_mem.1 hx).1
      exact ⟨by rw [hcov, this.1]; rfl, this.2⟩) ris
  have below : belS s l (putA s l ctx a v g) (putL s l ctx a v g) = true := belS_iff.2 ⟨h1, valid, fun d => by
    rcases says3 h1 d with ⟨e, _⟩ | ⟨x, hx, hxd, e, hc⟩ | ⟨e, hc, hno⟩
    · rw [e]
      rcases says3 valid d with ⟨e2, _⟩ | ⟨_, _, _, e2, _⟩ | ⟨e2, _⟩ <;> rw [e2]
      · exact leP_refl _
      · exact .inl (by simp)
      · exact .inl (by simp)
    · rw [e]
      have hct : cov (putA s l ctx a v g) d = true := by rw [hcov, hc]; rfl
      rcases hk : cov ctx d with _ | _
      · have hin : x ∈ putL s l ctx a v g := by rw [hL]; exact ins_mem.2 (.inr (keep_mem.2 ⟨hx, by rw [hxd]; exact hk⟩))
        have := says_there (a := putA s l ctx a v g) ris hin
        rw [hxd] at this; rw [this]; exact leP_refl _
      · rcases says3 valid d with ⟨_, e3, _⟩ | ⟨y, hy, hyd, e2, _⟩ | ⟨e2, _⟩
        · rw [hct] at e3; cases e3
        · rw [hL] at hy
          rcases ins_mem.1 hy with rfl | hy
          · have : putDot s ctx a = d := hyd
            rw [← this] at hc; rw [hc] at cs; cases cs
          · have := (keep_mem.1 hy).2; rw [hyd, hk] at this; cases this
        · rw [e2]; exact .inl (by simp)
    · rw [e]
      have hct : cov (putA s l ctx a v g) d = true := by rw [hcov, hc]; rfl
      rcases says3 valid d with ⟨_, e3, _⟩ | ⟨y, hy, hyd, e2, _⟩ | ⟨e2, _⟩
      · rw [hct] at e3; cases e3
      · rw [hL] at hy
        rcases ins_mem.1 hy with rfl | hy
        · have : putDot s ctx a = d := hyd
          rw [← this] at hc; rw [hc] at cs; cases cs
        · exact absurd hyd (hno y (keep_mem.1 hy).1)
      · rw [e2]; exact leP_refl _⟩
  refine ⟨h1, h2, hA, hL, hD, valid, hcov, cs, cc, cd, below, ?_, ?_⟩
  · rw [Bool.eq_false_iff]
    intro he
    simp only [stEq, Bool.and_eq_true, decide_eq_true_eq] at he
    have := cd
    rw [← he.1, cs] at this; cases this
  · exact (vbel_iff h2 tv).2 fun d hd => by rw [hcov, hd]; simp
end
/-- The road through the new siblings: so many stood already, and was the put met. -/
theorem road (K : List Sib) (x : Sib) (T : List Sib) (hT : insS x K = T) (hn : ∀ y ∈ K, y.d ≠ x.d) :
    ∃ p, p ≤ K.length ∧ T.length = K.length + 1 ∧ (∀ i (h : i < T.length), i < p → ∃ h2 : i < K.length, T[i] = K[i] ∧ T[i].d ≠ x.d) ∧ (∀ h : p < T.length, T[p] = x) ∧ (∀ i (h : i < T.length), p < i → ∃ h2 : i - 1 < K.length, T[i] = K[i - 1] ∧ T[i].d ≠ x.d) := by
  obtain ⟨p, hp, he⟩ := ins_split (x := x) K
  rw [hT] at he
  have hl : T.length = K.length + 1 := by rw [← hT, ins_len]
  refine ⟨p, hp, hl, fun i h hi => ?_, fun h => ?_, fun i h hi => ?_⟩
  · have e : T[i] = K[i] := by
      subst he
      rw [List.getElem_append_left (by simp; omega)]
      simp
    exact ⟨by omega, e, by rw [e]; exact hn _ (List.getElem_mem _)⟩
  · subst he
    rw [List.getElem_append_right (by simp; omega)]
    have : p - (K.take p).length = 0 := by simp; omega
    simp only [this, List.getElem_cons_zero]
  · have e : T[i] = K[i - 1] := by
      subst he
      rw [List.getElem_append_right (by simp; omega)]
      have : i - (K.take p).length = (i - 1 - p) + 1 := by simp; omega
      simp only [this, List.getElem_cons_succ, List.getElem_drop]
      congr 1; omega
    exact ⟨by omega, e, by rw [e]; exact hn _ (List.getElem_mem _)⟩
end Go.Proofs.Ytlmnmlehnigfdaa
