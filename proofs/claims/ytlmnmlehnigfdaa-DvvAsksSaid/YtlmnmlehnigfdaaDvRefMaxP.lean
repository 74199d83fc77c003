/- DERIVED. What the document's Max does, in plain words: all dots of both, the counts, put in order one by one. Cells of own rows of dots. -/
import Derived.Test.YtlmnmlehnigfdaaDvWalk
namespace Go.Proofs.Ytlmnmlehnigfdaa
open Go.RowKit
set_option linter.unusedVariables false
set_option linter.unusedSimpArgs false

def rest10 (a b : List Dot) : List Dot := b.filter fun y => decide (look a y.a = 0)
def all10 (a b : List Dot) : List Dot := a ++ rest10 a b
def upd10 (a b : List Dot) (z : Dot) : Dot := ⟨z.a, max (look a z.a) (look b z.a)⟩
theorem rest_succ (a b : List Dot) (k : Nat) (hk : k < b.length) : rest10 a (b.take (k + 1)) = if look a b[k].a = 0 then rest10 a (b.take k) ++ [b[k]] else rest10 a (b.take k) := by
  rw [List.take_succ_eq_append_getElem hk]
  unfold rest10
  rw [List.filter_append]
  split <;> simp [*]
theorem rest_len (a b : List Dot) : (rest10 a b).length ≤ b.length := List.length_filter_le _ _
theorem all_dist {a b : List Dot} (ha : vecB a = true) (hb : vecB b = true) : (all10 a b).Pairwise fun x y => x.a ≠ y.a := by
  unfold all10
  rw [List.pairwise_append]
  refine ⟨(vec_ris ha).imp fun h => by omega, ((vec_ris hb).filter _).imp fun h => by omega, fun x hx y hy h => ?_⟩
  have h1 := (List.mem_filter.1 hy).2
  have h2 := look_mem (vec_ris ha) hx
  have h3 := (vec_ok ha x hx).1
  rw [h] at h2
  simp only [decide_eq_true_eq] at h1
  omega
/-- The first i dots, in order, with their counts. -/
def InsOk (a b : List Dot) (i : Nat) (P : List Dot) : Prop :=
  P.length = i ∧ Ris P ∧ (∀ d ∈ P, d.n = max (look a d.a) (look b d.a) ∧ ∃ z ∈ (all10 a b).take i, z.a = d.a) ∧ ∀ z ∈ (all10 a b).take i, ∃ d ∈ P, d.a = z.a
theorem ins_zero (a b : List Dot) : InsOk a b 0 [] := ⟨rfl, List.Pairwise.nil, by simp, by simp⟩
theorem ins_next {a b : List Dot} (ha : vecB a = true) (hb : vecB b = true) {i : Nat} {P1 P2 : List Dot} (hi : i < (all10 a b).length) (h : InsOk a b i (P1 ++ P2)) (h2 : ∀ d ∈ P2, (all10 a b)[i].a < d.a)
    (h1 : P1 = [] ∨ ∃ Q p, P1 = Q ++ [p] ∧ p.a ≤ (all10 a b)[i].a) : InsOk a b (i + 1) (P1 ++ upd10 a b (all10 a b)[i] :: P2) := by
  obtain ⟨hl, hr, hv, hw⟩ := h
  have hd := all_dist ha hb
  have ht : (all10 a b).take (i + 1) = (all10 a b).take i ++ [(all10 a b)[i]] := List.take_succ_eq_append_getElem hi
  have hne : ∀ d ∈ P1 ++ P2, d.a ≠ (all10 a b)[i].a := by
    intro d hd1 he
    obtain ⟨z, hz, hza⟩ := (hv d hd1).2
    obtain ⟨j, hj, rfl⟩ := List.getElem_of_mem hz
    simp only [List.length_take] at hj
    rw [List.getElem_take] at hza
    have := List.pairwise_iff_getElem.1 hd j i (by omega) hi (by omega)
    omega
  have hr' := List.pairwise_append.1 hr
  have hlt : ∀ d ∈ P1, d.a < (all10 a b)[i].a := by
    intro d hd1
    rcases h1 with rfl | ⟨Q, p, rfl, hp⟩
    · cases hd1
    · have hn := hne d (List.mem_append_left _ hd1)
      rcases List.mem_append.1 hd1 with hq | hq
      · have := (List.pairwise_append.1 hr'.1).2.2 d hq p (by simp); omega
      · simp only [List.mem_singleton] at hq; subst hq; omega
  refine ⟨by simp only [List.length_append, List.length_cons] at *; omega, ?_, ?_, ?_⟩
  · refine List.pairwise_append.2 ⟨hr'.1, List.Pairwise.cons (fun d hd2 => h2 d hd2) hr'.2.1, fun x hx y hy => ?_⟩
    rcases List.mem_cons.1 hy with rfl | hy
    · exact hlt x hx
    · exact hr'.2.2 x hx y hy
  · intro d hd1
    rw [ht]
    rcases List.mem_append.1 hd1 with h | h
    · obtain ⟨e, z, hz, hza⟩ := hv d (List.mem_append_left _ h); exact ⟨e, z, List.mem_append_left _ hz, hza⟩
    · rcases List.mem_cons.1 h with rfl | h
      · exact ⟨rfl, _, List.mem_append_right _ (List.mem_singleton.2 rfl), rfl⟩
      · obtain ⟨e, z, hz, hza⟩ := hv d (List.mem_append_right _ h); exact ⟨e, z, List.mem_append_left _ hz, hza⟩
  · intro z hz
    rw [ht] at hz
    rcases List.mem_append.1 hz with h | h
    · obtain ⟨d, hd1, e⟩ := hw z h
      rcases List.mem_append.1 hd1 with h3 | h3
      · exact ⟨d, List.mem_append_left _ h3, e⟩
      · exact ⟨d, List.mem_append_right _ (List.mem_cons_of_mem _ h3), e⟩
    · simp only [List.mem_singleton] at h; subst h
      exact ⟨upd10 a b (all10 a b)[i], by simp, rfl⟩
theorem ins_end {a b : List Dot} (ha : vecB a = true) (hb : vecB b = true) {P : List Dot} (h : InsOk a b (all10 a b).length P) : P = vmax a b := by
  obtain ⟨_, hr, hv, hw⟩ := h
  rw [List.take_length] at hv hw
  have pa : ∀ d ∈ a, 1 ≤ d.n := fun d hd => (vec_ok ha d hd).1
  have pb : ∀ d ∈ b, 1 ≤ d.n := fun d hd => (vec_ok hb d hd).1
  have hin : ∀ k, (look a k ≠ 0 ∨ look b k ≠ 0) → ∃ z ∈ all10 a b, z.a = k := by
    intro k hk
    rcases look_cases a k with ⟨h1, _⟩ | ⟨x, hx, h1, _⟩
    · rcases look_cases b k with ⟨h2, _⟩ | ⟨y, hy, h2, _⟩
      · omega
      · exact ⟨y, List.mem_append_right _ (List.mem_filter.2 ⟨hy, by simp [h2, h1]⟩), h2⟩
    · exact ⟨x, List.mem_append_left _ hx, h1⟩
  have hpos : ∀ d ∈ P, 1 ≤ d.n := by
    intro d hd
    obtain ⟨e, z, hz, hza⟩ := hv d hd
    have ba := look_bound ha d.a
    have bb := look_bound hb d.a
    rcases List.mem_append.1 hz with h | h
    · have h1 := look_mem (vec_ris ha) h
      have := pa z h
      rw [hza] at h1; omega
    · have h0 := (List.mem_filter.1 h).1
      have h1 := look_mem (vec_ris hb) h0
      have := pb z h0
      rw [hza] at h1; omega
  refine look_ext hr (vmax_ris a b (vec_ris ha) (vec_ris hb)) hpos (fun d hd => (vmax_ok ha hb d hd).1) fun k => ?_
  rw [vmax_look a b (vec_ris ha) (vec_ris hb) pa pb]
  rcases look_cases P k with ⟨h1, h2⟩ | ⟨d, hd, h1, h2⟩
  · rw [h1]
    by_cases hk : look a k ≠ 0 ∨ look b k ≠ 0
    · obtain ⟨z, hz, e⟩ := hin k hk
      obtain ⟨d, hd, e2⟩ := hw z hz
      exact absurd (e2.trans e) (h2 d hd)
    · omega
  · rw [h2, (hv d hd).1, h1]

/-- A dot of a row of the call's own, as the walk reads and writes it. -/
theorem own_dot {w : World} {B g n cap : Nat} {l : List Dot} (h : GR.Own dotK w B (.slice (some ⟨g, 0, none⟩) n cap) l) {i : Nat} {x : Dot} (hx : l[i]? = some x) :
    w.cell? ⟨g, i * 2, none⟩ = some (.int .u32 x.a) ∧ w.cell? ⟨g, i * 2 + 1, none⟩ = some (.int .u64 x.n) ∧ w.frozen? ⟨g, i * 2, none⟩ = false ∧ w.frozen? ⟨g, i * 2 + 1, none⟩ = false := by
  obtain ⟨hi, rfl⟩ := List.getElem?_eq_some_iff.1 hx
  have h0 := h.cells i hi 0 _ rfl
  have h1 := h.cells i hi 1 _ rfl
  exact ⟨h0.1, h1.1, h0.2, h1.2⟩
theorem dots_set (l : List Dot) (i : Nat) (x : Dot) (hi : i < l.length) : GR.cs dotK (l.set i x) = ((GR.cs dotK l).set (i * 2) (.int .u32 x.a)).set (i * 2 + 1) (.int .u64 x.n) := by
  induction l generalizing i with
  | nil => exact absurd hi (by simp)
  | cons y l ih =>
    cases i with
    | zero => simp [GR.cs_cons, dotK]
    | succ i =>
      rw [List.set_cons_succ, GR.cs_cons, GR.cs_cons, ih i (by simpa using hi)]
      rw [show (i + 1) * 2 = i * 2 + 1 + 1 by omega]
      simp [dotK]
theorem dots_setn (l : List Dot) (i : Nat) (n : Int) (x : Dot) (hx : l[i]? = some x) : GR.cs dotK (l.set i ⟨x.a, n⟩) = (GR.cs dotK l).set (i * 2 + 1) (.int .u64 n) := by
  induction l generalizing i with
  | nil => simp at hx
  | cons y l ih =>
    cases i with
    | zero => simp only [List.getElem?_cons_zero, Option.some.injEq] at hx; subst hx; simp [GR.cs_cons, dotK]
    | succ i =>
      rw [List.set_cons_succ, GR.cs_cons, GR.cs_cons, ih i (by simpa using hx)]
      rw [show (i + 1) * 2 = i * 2 + 1 + 1 by omega]
      simp [dotK]
theorem own_len {α : Type} {K : GR.Kind α} {w : World} {B g n cap : Nat} {l : List α} (h : GR.Own K w B (.slice (some ⟨g, 0, none⟩) n cap) l) : n = l.length := by
  rcases h.2 with ⟨hv, _⟩ | ⟨_, _, _, hv, _⟩
  · cases hv
  · injection hv
theorem own_setd {w : World} {B g n cap : Nat} {l : List Dot} (h : GR.Own dotK w B (.slice (some ⟨g, 0, none⟩) n cap) l) (i : Nat) (hi : i < l.length) (x : Dot) :
    GR.Own dotK ((w.setCell ⟨g, i * 2, none⟩ (.int .u32 x.a)).setCell ⟨g, i * 2 + 1, none⟩ (.int .u64 x.n)) B (.slice (some ⟨g, 0, none⟩) n cap) (l.set i x) := by
  obtain rfl := own_len h
  have := (World.ownsRow.stored (World.ownsRow.stored h (i * 2) (.int .u32 x.a)).1 (i * 2 + 1) (.int .u64 x.n)).1
  unfold GR.Own
  rw [List.length_set, dots_set l i x hi]
  exact this
theorem own_setn {w : World} {B g n cap : Nat} {l : List Dot} (h : GR.Own dotK w B (.slice (some ⟨g, 0, none⟩) n cap) l) (i : Nat) (x : Dot) (hx : l[i]? = some x) (m : Int) :
    GR.Own dotK (w.setCell ⟨g, i * 2 + 1, none⟩ (.int .u64 m)) B (.slice (some ⟨g, 0, none⟩) n cap) (l.set i ⟨x.a, m⟩) := by
  obtain rfl := own_len h
  have := (World.ownsRow.stored h (i * 2 + 1) (.int .u64 m)).1
  unfold GR.Own
  rw [List.length_set, dots_setn l i m x hx]
  exact this
end Go.Proofs.Ytlmnmlehnigfdaa
