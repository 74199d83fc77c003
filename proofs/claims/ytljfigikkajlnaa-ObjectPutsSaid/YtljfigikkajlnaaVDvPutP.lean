/- DERIVED. A put in plain words: the counts, the new dot, the siblings that stay, where the new one stands. -/
import Derived.Test.YtljfigikkajlnaaVm10
namespace Go.Proofs.Ytljfigikkajlnaa
set_option linter.unusedVariables false
set_option linter.unusedSimpArgs false
/-- The siblings that a context does not cover. -/
def keepS (ctx : List Dot) (l : List Sib) : List Sib := l.filter fun y => !cov ctx y.d
/-- A sibling laid in its place. -/
def insS (x : Sib) (L : List Sib) : List Sib := L.takeWhile (fun y => ltD y.d x.d) ++ x :: L.dropWhile (fun y => ltD y.d x.d)
theorem ins_cons {x y : Sib} {L : List Sib} (h : ltD y.d x.d = true) : insS x (y :: L) = y :: insS x L := by simp [insS, h]
theorem ins_here {x y : Sib} {L : List Sib} (h : ltD y.d x.d = false) : insS x (y :: L) = x :: y :: L := by simp [insS, h]
theorem ins_at {x : Sib} : ∀ {L : List Sib} {i : Nat}, i ≤ L.length → (∀ t (ht : t < L.length), t < i → ltD L[t].d x.d = true) → (∀ t (ht : t < L.length), i ≤ t → ltD L[t].d x.d = false) → L.take i ++ x :: L.drop i = insS x L
  | [], i, _, _, _ => by simp [insS]
  | y :: L, 0, _, _, h2 => by rw [ins_here (show ltD y.d x.d = false from h2 0 (by simp) (by omega))]; rfl
  | y :: L, i + 1, h, h1, h2 => by
    rw [ins_cons (show ltD y.d x.d = true from h1 0 (by simp) (by omega)), ← ins_at (L := L) (i := i) (by simpa using h) (fun t ht hti => h1 (t + 1) (by simp; omega) (by omega)) (fun t ht hti => h2 (t + 1) (by simp; omega) (by omega))]
    rfl
theorem ins_mem {x y : Sib} : ∀ {L : List Sib}, y ∈ insS x L ↔ y = x ∨ y ∈ L
  | [] => by simp [insS]
  | z :: L => by
    rcases h : ltD z.d x.d with _ | _
    · rw [ins_here h]; simp
    · rw [ins_cons h, List.mem_cons, ins_mem (L := L)]; simp only [List.mem_cons]
      constructor
      · rintro (h | h | h)
        · exact .inr (.inl h)
        · exact .inl h
        · exact .inr (.inr h)
      · rintro (h | h | h)
        · exact .inr (.inl h)
        · exact .inl h
        · exact .inr (.inr h)
theorem ins_len (x : Sib) (L : List Sib) : (insS x L).length = L.length + 1 := by
  induction L with
  | nil => simp [insS]
  | cons y L ih =>
    rcases h : ltD y.d x.d with _ | _
    · rw [ins_here h]; simp
    · rw [ins_cons h]; simp [ih]
theorem keep_ris {ctx : List Dot} {l : List Sib} (h : SRis l) : SRis (keepS ctx l) := List.Pairwise.filter _ h
theorem keep_mem {ctx : List Dot} {l : List Sib} {y : Sib} : y ∈ keepS ctx l ↔ y ∈ l ∧ cov ctx y.d = false := by simp [keepS]
theorem keep_len (ctx : List Dot) (l : List Sib) : (keepS ctx l).length ≤ l.length := List.length_filter_le _ _
theorem keep_snoc_yes {ctx : List Dot} {l : List Sib} {k : Nat} (h : k < l.length) (hc : cov ctx l[k].d = true) : keepS ctx (l.take (k + 1)) = keepS ctx (l.take k) := by
  have h1 : [l[k]].filter (fun y => !cov ctx y.d) = [] := by simp [hc]
  unfold keepS
  rw [List.take_succ_eq_append_getElem h, List.filter_append, h1, List.append_nil]
theorem keep_snoc_no {ctx : List Dot} {l : List Sib} {k : Nat} (h : k < l.length) (hc : cov ctx l[k].d = false) : keepS ctx (l.take (k + 1)) = keepS ctx (l.take k) ++ [l[k]] := by
  have h1 : [l[k]].filter (fun y => !cov ctx y.d) = [l[k]] := by simp [hc]
  unfold keepS
  rw [List.take_succ_eq_append_getElem h, List.filter_append, h1]
/-- The document's road through the siblings. -/
def putR (ctx : List Dot) (x : Sib) : List Sib → Bool → List Sib
  | [], p => if p then [] else [x]
  | y :: l, p => if cov ctx y.d then putR ctx x l p else if p then y :: putR ctx x l p else if ltD x.d y.d then x :: y :: putR ctx x l true else y :: putR ctx x l p
theorem putR_true (ctx : List Dot) (x : Sib) : ∀ l : List Sib, putR ctx x l true = keepS ctx l
  | [] => rfl
  | y :: l => by
    rw [putR, putR_true ctx x l]
    rcases h : cov ctx y.d with _ | _ <;> simp [keepS, h]
theorem putR_false (ctx : List Dot) (x : Sib) : ∀ l : List Sib, (∀ y ∈ l, y.d ≠ x.d) → putR ctx x l false = insS x (keepS ctx l)
  | [], _ => by simp [putR, keepS, insS]
  | y :: l, hn => by
    have ih := putR_false ctx x l (fun z hz => hn z (List.mem_cons_of_mem _ hz))
    have hk : keepS ctx (y :: l) = if cov ctx y.d then keepS ctx l else y :: keepS ctx l := by
      rcases h : cov ctx y.d with _ | _ <;> simp [keepS, h]
    rw [putR, ih, putR_true, hk]
    rcases h : cov ctx y.d with _ | _
    · simp only [Bool.false_eq_true, if_false]
      rcases ltD_tri x.d y.d with ⟨h1, _, h2⟩ | h1 | ⟨h1, _, h2⟩
      · rw [if_pos h1, ins_here h2]
      · exact absurd h1.symm (hn y (by simp))
      · rw [if_neg (by rw [h2]; simp), ins_cons h1]
    · simp only [if_true]
theorem putR_drop {ctx : List Dot} {x : Sib} {l : List Sib} {k : Nat} (h : k < l.length) (p : Bool) :
    putR ctx x (l.drop k) p = if cov ctx l[k].d then putR ctx x (l.drop (k + 1)) p else if p then l[k] :: putR ctx x (l.drop (k + 1)) p else if ltD x.d l[k].d then x :: l[k] :: putR ctx x (l.drop (k + 1)) true else l[k] :: putR ctx x (l.drop (k + 1)) p := by
  rw [List.drop_eq_getElem_cons h, putR]
/-- The count of the actor, the put's dot, may the value be. -/
def putN (s ctx : List Dot) (a : Int) : Int := max (cnt s a) (cnt ctx a)
def putDot (s ctx : List Dot) (a : Int) : Dot := ⟨a, putN s ctx a + 1⟩
def valB (v : ByteArray) (g : Bool) : Bool := decide (v.size ≤ 40) && !(g && decide (v.size ≠ 0))
theorem val_ok {v : ByteArray} {g : Bool} (h1 : ¬ 40 < v.size) (h2 : ¬ (g = true ∧ v.size ≠ 0)) : valB v g = true := by
  have h3 : v.size ≤ 40 := by omega
  cases g
  · simp [valB, h3]
  · have h4 : v.size = 0 := by
      by_cases hz : v.size = 0
      · exact hz
      · exact absurd ⟨rfl, hz⟩ h2
    simp [valB, h4]
theorem val_or {v : ByteArray} {g : Bool} (h2 : ¬ (g = true ∧ v.size ≠ 0)) : g = false ∨ (g = true ∧ v.size = 0) := by
  cases g
  · exact .inl rfl
  · refine .inr ⟨rfl, ?_⟩
    by_cases hz : v.size = 0
    · exact hz
    · exact absurd ⟨rfl, hz⟩ h2
def putX (s ctx : List Dot) (a : Int) (v : ByteArray) (g : Bool) : Sib := ⟨putDot s ctx a, g, v⟩
def putE (s : List Dot) (l : List Sib) (ctx : List Dot) (a : Int) (v : ByteArray) (g : Bool) : Int :=
  if staB s l = false then 110 else if vecB ctx = false then 100 else if valB v g = false then 131 else if 1099511627776 ≤ putN s ctx a then 101
  else if 64 < (vmax s ctx).length then 82 else if 64 < (vmax (vmax s ctx) [putDot s ctx a]).length then 82 else if 64 < (insS (putX s ctx a v g) (keepS ctx l)).length then 82 else 0
def putA (s : List Dot) (l : List Sib) (ctx : List Dot) (a : Int) (v : ByteArray) (g : Bool) : List Dot := if putE s l ctx a v g = 0 then vmax (vmax s ctx) [putDot s ctx a] else []
def putL (s : List Dot) (l : List Sib) (ctx : List Dot) (a : Int) (v : ByteArray) (g : Bool) : List Sib := if putE s l ctx a v g = 0 then insS (putX s ctx a v g) (keepS ctx l) else []
def putD (s : List Dot) (l : List Sib) (ctx : List Dot) (a : Int) (v : ByteArray) (g : Bool) : Dot := if putE s l ctx a v g = 0 then putDot s ctx a else ⟨0, 0⟩
/-- What a put answers: the error r; nothing else. -/
structure PutNo (s : List Dot) (l : List Sib) (ctx : List Dot) (a : Int) (v : ByteArray) (g : Bool) (r : Int) : Prop where
  he : putE s l ctx a v g = r
  ha : putA s l ctx a v g = []
  hl : putL s l ctx a v g = []
  hd : putD s l ctx a v g = ⟨0, 0⟩
section
variable {s ctx : List Dot} {l : List Sib} {a : Int} {v : ByteArray} {g : Bool}
theorem putNo {r : Int} (h : putE s l ctx a v g = r) (h0 : r ≠ 0) : PutNo s l ctx a v g r := by
  subst h
  exact ⟨rfl, by rw [putA, if_neg h0], by rw [putL, if_neg h0], by rw [putD, if_neg h0]⟩
theorem put_sta (h : staB s l = false) : PutNo s l ctx a v g 110 := putNo (by rw [putE, if_pos h]) (by omega)
theorem put_vec (h : staB s l = true) (h2 : vecB ctx = false) : PutNo s l ctx a v g 100 := putNo (by rw [putE, if_neg (by rw [h]; simp), if_pos h2]) (by omega)
theorem put_val (h : staB s l = true) (h2 : vecB ctx = true) (h3 : valB v g = false) : PutNo s l ctx a v g 131 := putNo (by rw [putE, if_neg (by rw [h]; simp), if_neg (by rw [h2]; simp), if_pos h3]) (by omega)
theorem put_end (h : staB s l = true) (h2 : vecB ctx = true) (h3 : valB v g = true) (h4 : 1099511627776 ≤ putN s ctx a) : PutNo s l ctx a v g 101 :=
  putNo (by rw [putE, if_neg (by rw [h]; simp), if_neg (by rw [h2]; simp), if_neg (by rw [h3]; simp), if_pos h4]) (by omega)
theorem put_big1 (h : staB s l = true) (h2 : vecB ctx = true) (h3 : valB v g = true) (h4 : ¬ 1099511627776 ≤ putN s ctx a) (h5 : 64 < (vmax s ctx).length) : PutNo s l ctx a v g 82 :=
  putNo (by rw [putE, if_neg (by rw [h]; simp), if_neg (by rw [h2]; simp), if_neg (by rw [h3]; simp), if_neg h4, if_pos h5]) (by omega)
theorem put_big2 (h : staB s l = true) (h2 : vecB ctx = true) (h3 : valB v g = true) (h4 : ¬ 1099511627776 ≤ putN s ctx a) (h5 : ¬ 64 < (vmax s ctx).length) (h6 : 64 < (vmax (vmax s ctx) [putDot s ctx a]).length) : PutNo s l ctx a v g 82 :=
  putNo (by rw [putE, if_neg (by rw [h]; simp), if_neg (by rw [h2]; simp), if_neg (by rw [h3]; simp), if_neg h4, if_neg h5, if_pos h6]) (by omega)
theorem put_big3 (h : staB s l = true) (h2 : vecB ctx = true) (h3 : valB v g = true) (h4 : ¬ 1099511627776 ≤ putN s ctx a) (h5 : ¬ 64 < (vmax s ctx).length) (h6 : ¬ 64 < (vmax (vmax s ctx) [putDot s ctx a]).length) (h7 : 64 < (insS (putX s ctx a v g) (keepS ctx l)).length) : PutNo s l ctx a v g 82 :=
  putNo (by rw [putE, if_neg (by rw [h]; simp), if_neg (by rw [h2]; simp), if_neg (by rw [h3]; simp), if_neg h4, if_neg h5, if_neg h6, if_pos h7]) (by omega)
theorem put_ok (h : staB s l = true) (h2 : vecB ctx = true) (h3 : valB v g = true) (h4 : ¬ 1099511627776 ≤ putN s ctx a) (h5 : ¬ 64 < (vmax s ctx).length) (h6 : ¬ 64 < (vmax (vmax s ctx) [putDot s ctx a]).length) (h7 : ¬ 64 < (insS (putX s ctx a v g) (keepS ctx l)).length) :
    putE s l ctx a v g = 0 ∧ putA s l ctx a v g = vmax (vmax s ctx) [putDot s ctx a] ∧ putL s l ctx a v g = insS (putX s ctx a v g) (keepS ctx l) ∧ putD s l ctx a v g = putDot s ctx a := by
  have : putE s l ctx a v g = 0 := by rw [putE, if_neg (by rw [h]; simp), if_neg (by rw [h2]; simp), if_neg (by rw [h3]; simp), if_neg h4, if_neg h5, if_neg h6, if_neg h7]
  exact ⟨this, by rw [putA, if_pos this], by rw [putL, if_pos this], by rw [putD, if_pos this]⟩
theorem put_zero (h : putE s l ctx a v g = 0) : staB s l = true ∧ vecB ctx = true ∧ valB v g = true ∧ putN s ctx a < 1099511627776 ∧ (vmax s ctx).length ≤ 64 ∧ (vmax (vmax s ctx) [putDot s ctx a]).length ≤ 64 ∧ (insS (putX s ctx a v g) (keepS ctx l)).length ≤ 64 := by
  unfold putE at h
  split at h
  · omega
  · split at h
    · omega
    · split at h
      · omega
      · split at h
        · omega
        · split at h
          · omega
          · split at h
            · omega
            · split at h
              · omega
              · rename_i h1 h2 h3 h4 h5 h6 h7
                exact ⟨by simpa using h1, by simpa using h2, by simpa using h3, by omega, by omega, by omega, by omega⟩
theorem putN_bound (s ctx : List Dot) (a : Int) : 0 ≤ putN s ctx a ∧ putN s ctx a ≤ 1099511627776 := by
  have h1 := cnt_bound s a
  have h2 := cnt_bound ctx a
  unfold putN; omega
/-- The put's dot is none of the siblings' dots. -/
theorem put_new (h : staB s l = true) : ∀ y ∈ l, y.d ≠ putDot s ctx a := fun y hy e => by
  have h1 := ((sta_ok h).2.2 y hy).1
  rw [e] at h1
  unfold cov at h1
  simp only [Bool.and_eq_true, decide_eq_true_eq] at h1
  have h3 : putN s ctx a + 1 ≤ cnt s a := h1.2
  have h2 : cnt s a ≤ putN s ctx a := by unfold putN; omega
  omega
theorem dot_vec {x : Dot} (h : 1 ≤ x.n) (h2 : x.n ≤ 1099511627776) : vecB [x] = true := vec_of (by simp [Ris]) (fun d hd => by rw [List.mem_singleton.1 hd]; exact ⟨h, h2⟩) (by simp)
theorem vmax_vec {b : List Dot} (ha : vecB s = true) (hb : vecB b = true) (h : (vmax s b).length ≤ 64) : vecB (vmax s b) = true := vec_of (vmax_ris _ _ (vec_ris ha) (vec_ris hb)) (vmax_ok ha hb) h
theorem put_small (s : List Dot) (l : List Sib) (ctx : List Dot) (a : Int) (v : ByteArray) (g : Bool) : (putA s l ctx a v g).length ≤ 64 ∧ (putL s l ctx a v g).length ≤ 64 := by
  by_cases h : putE s l ctx a v g = 0
  · have := put_zero h
    rw [putA, putL, if_pos h, if_pos h]
    exact ⟨this.2.2.2.2.2.1, this.2.2.2.2.2.2⟩
  · rw [putA, putL, if_neg h, if_neg h]; simp
theorem put_pos (ns : ∀ d ∈ s, 0 ≤ d.n) (nl : ∀ x ∈ l, 0 ≤ x.d.n) (nc : ∀ d ∈ ctx, 0 ≤ d.n) : (∀ d ∈ putA s l ctx a v g, 0 ≤ d.n) ∧ ∀ x ∈ putL s l ctx a v g, 0 ≤ x.d.n := by
  have hb := putN_bound s ctx a
  by_cases h : putE s l ctx a v g = 0
  · rw [putA, putL, if_pos h, if_pos h]
    refine ⟨vmax_pos _ _ (vmax_pos _ _ ns nc) (fun d hd => ?_), fun x hx => ?_⟩
    · rw [List.mem_singleton.1 hd]; show 0 ≤ putN s ctx a + 1; omega
    · rcases ins_mem.1 hx with rfl | hx
      · show 0 ≤ putN s ctx a + 1; omega
      · exact nl x (keep_mem.1 hx).1
  · rw [putA, putL, if_neg h, if_neg h]; exact ⟨fun d hd => (by cases hd), fun d hd => (by cases hd)⟩
end
end Go.Proofs.Ytljfigikkajlnaa
