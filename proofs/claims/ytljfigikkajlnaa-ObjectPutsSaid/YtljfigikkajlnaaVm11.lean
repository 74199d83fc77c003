/- DERIVED.  Same of dots, of siblings: both texts. Rows of the call's own: apart from one another, left as they were by stores elsewhere. A state's twin. What the document's Max does, in plain words: all dots of both, the counts, put in order one by one. Cells of own rows of dots. -/
import Derived.Test.YtljfigikkajlnaaVm3
import Derived.Test.YtljfigikkajlnaaVGRow
import Derived.Test.YtljfigikkajlnaaVWWords
import Derived.Laws.StructEq
import Derived.Laws.Runes
import Derived.Deep.QuietTactic
import Derived.BigQuiet
import Derived.Deep.RegionHeld3
import Derived.WalkLawsBesides
import Derived.WalkSpells
import Derived.Lib.Hide
import Derived.Outline
import Derived.RegionCalls
import Derived.Lib.Bytealg
import Derived.WalkMore
import Derived.Lib.Strings
namespace Go.Proofs.YtljfigikkajlnaaW.PrintWords
set_option linter.unusedVariables false
set_option linter.unusedSimpArgs false
open Go.RowKit
section
variable {P : Program} {d : Nat} {xs ys : Array Value} {f : Field} {fs : List Field} {a b : Value} {r s : Bool} {w : World}
/-- The last field that counts. -/
theorem eqf_last (hn : (f.name == "_") = false) (ha : (part f.type xs f.offset).run P w = .ok a w) (hb : (part f.type ys f.offset).run P w = .ok b w) (he : (Op.equalIn d f.type a b).run P w = .ok r w) : (Op.eqFields d xs ys [f]).run P w = .ok r w := by
  have hn' : f.name ≠ "_" := by simpa using hn
  simp only [Op.eqFields, if_pos hn', Sem.run_bind, ha, hb, he, Result.andThen_ok]
  cases r <;> simp
theorem eqf_cons (hn : (f.name == "_") = false) (ha : (part f.type xs f.offset).run P w = .ok a w) (hb : (part f.type ys f.offset).run P w = .ok b w) (he : (Op.equalIn d f.type a b).run P w = .ok r w) (hr : (Op.eqFields d xs ys fs).run P w = .ok s w) : (Op.eqFields d xs ys (f :: fs)).run P w = .ok (r && s) w := by
  have hn' : f.name ≠ "_" := by simpa using hn
  rw [Op.eqFields]
  simp only [if_pos hn', Sem.run_bind, ha, hb, he, Result.andThen_ok]
  cases r
  · simp
  · simpa using hr
theorem eqA_of {t : TypeId} {fs : Array Field} (hu : P.underlying t = some (.struct fs)) (hp : P.stoodInHeld t = false) (h : (Op.eqFields d xs ys fs.toList).run P w = .ok r w) : (Op.equalIn (d + 1) t (.agg xs) (.agg ys)).run P w = .ok r w := by
  have hf : P.fieldsOf t = fs := by simp [Program.fieldsOf, hu]
  rw [run_equalIn_struct (P := P) w d t xs ys (by rw [hf]; exact hu) hp, hf]
  exact h
end
end Go.Proofs.YtljfigikkajlnaaW.PrintWords
namespace Go.Proofs.Ytljfigikkajlnaa
open Go.RowKit Go.Proofs.YtljfigikkajlnaaW.PrintWords
set_option linter.unusedVariables false
set_option linter.unusedSimpArgs false
theorem str_eq {a b : ByteArray} : (a.toList == b.toList) = decide (a = b) := by
  rw [Bool.eq_iff_iff]
  simp only [beq_iff_eq, decide_eq_true_eq, ByteArray.toList_eq]
  exact ⟨fun h => by obtain ⟨⟨a⟩⟩ := a; obtain ⟨⟨b⟩⟩ := b; simp only at h; rw [h], fun h => by rw [h]⟩
/-- Are two dots the same, two siblings? -/
def dEq (a n b m : Int) : Bool := decide (a = b) && decide (n = m)
def sEq (a n : Int) (g : Bool) (v : ByteArray) (b m : Int) (h : Bool) (u : ByteArray) : Bool := dEq a n b m && (decide (g = h) && decide (v = u))
theorem dEq_iff {x y : Dot} : dEq x.a x.n y.a y.n = true ↔ x = y := by
  simp only [dEq, Bool.and_eq_true, decide_eq_true_eq]
  exact ⟨fun h => by cases x; cases y; simp only at h; rw [h.1, h.2], fun h => by rw [h]; exact ⟨rfl, rfl⟩⟩
theorem sEq_iff {x y : Sib} : sEq x.d.a x.d.n x.gone x.v y.d.a y.d.n y.gone y.v = true ↔ x = y := by
  simp only [sEq, Bool.and_eq_true, decide_eq_true_eq, dEq_iff]
  exact ⟨fun h => by cases x; cases y; simp only at h; obtain ⟨h1, h2, h3⟩ := h; rw [h1, h2, h3], fun h => by rw [h]; exact ⟨rfl, rfl, rfl⟩⟩
theorem eqD (d : Nat) (w : World) (a n b m : Int) :
    (Op.equalIn (d + 2) 41 (.agg #[.int .u32 a, .int .u64 n]) (.agg #[.int .u32 b, .int .u64 m])).run Try.prog w = .ok (dEq a n b m) w := by
  have : dEq a n b m = ((a == b) && (n == m)) := by unfold dEq; rfl
  rw [this]
  refine eqA_of Try.underlying41 (by kernel_rfl) ?_
  refine eqf_cons (by rfl) (by go_simp; rfl) (by go_simp; rfl) (by go_simp) ?_
  exact eqf_last (by rfl) (by go_simp; rfl) (by go_simp; rfl) (by go_simp)
attribute [local go_sem high] eqD
theorem eqS (d : Nat) (w : World) (a n : Int) (g : Bool) (v : ByteArray) (b m : Int) (h : Bool) (u : ByteArray) :
    (Op.equalIn (d + 3) 67 (.agg #[.int .u32 a, .int .u64 n, .bool g, .string v]) (.agg #[.int .u32 b, .int .u64 m, .bool h, .string u])).run Try.prog w = .ok (sEq a n g v b m h u) w := by
  have : sEq a n g v b m h u = (dEq a n b m && ((g == h) && (v.toList == u.toList))) := by unfold sEq; rw [str_eq]; rfl
  rw [this]
  refine eqA_of Try.underlying67 (by kernel_rfl) ?_
  refine eqf_cons (by rfl) (by go_simp) (by go_simp) (eqD _ _ _ _ _ _) ?_
  refine eqf_cons (by rfl) (by go_simp; rfl) (by go_simp; rfl) (by go_simp) ?_
  exact eqf_last (by rfl) (by go_simp; rfl) (by go_simp; rfl) (by go_simp)
attribute [local go_sem high] eqS
/-- Are two states the same? -/
def stEq (a : List Dot) (l : List Sib) (b : List Dot) (m : List Sib) : Bool := decide (a = b) && decide (l = m)
end Go.Proofs.Ytljfigikkajlnaa
namespace Go.Proofs.Ytljfigikkajlnaa
open Go.RowKit
set_option linter.unusedVariables false
set_option linter.unusedSimpArgs false
theorem own_slice {α : Type} {K : GR.Kind α} {w : World} {B : Nat} {v : Value} {l : List α} (h : GR.Own K w B v l) (hb : l.length * K.b ≤ 140737488355328) : ∃ A n c, v = .slice A n c := by
  obtain ⟨A, c, e, _⟩ := h.rd' hb
  exact ⟨A, _, c, e⟩
/-- A store into another block leaves an own row as it was. -/
theorem own_far {α : Type} {K : GR.Kind α} {w : World} {g B : Nat} {t : TypeId} {cs : Array Value} {v : Value} {l : List α} (h : GR.Own K w B v l) (bg : GR.Blk w g t cs) (u : Value) (hne : K.e ≠ t) : GR.Own K (w.setCell ⟨g, 0, none⟩ u) B v l :=
  h.grown (row := some g) ⟨rfl, rfl, rfl, by simp [World.setCell], fun k _ hk => Below.heap_setCell _ _ _ _ (by intro e; subst e; exact hk rfl)⟩ (.inr (GR.own_blk_ne h bg hne))
theorem own_apart {α β : Type} {K : GR.Kind α} {J : GR.Kind β} {w : World} {B B' : Nat} {u v : Value} {l : List α} {m : List β} (h : GR.Own K w B u l) (k : GR.Own J w B' v m) (hne : K.e ≠ J.e) : u.ownBlock = none ∨ u.ownBlock ≠ v.ownBlock := by
  rcases h.2 with ⟨rfl, _⟩ | ⟨g, cap, cur, rfl, _, hh, _⟩
  · exact .inl rfl
  · refine .inr fun e => ?_
    rcases k.2 with ⟨rfl, _⟩ | ⟨g', cap', cur', rfl, _, hh', _⟩
    · simp [Value.ownBlock] at e
    · have : g = g' := by simpa [Value.ownBlock] using e
      subst this
      exact GR.Blk.ne_ (t := K.e) (t' := J.e) hh hh' hne rfl
/-- What is older than a row grown is as it was (the row apart). -/
theorem own_set2 {α : Type} {K : GR.Kind α} {w : World} {B g : Nat} {u v x : Value} {l : List α} {W : World} {cs : Array Value} (h : GR.Own K w B x l) (bg : GR.Blk W g 25 cs) (hb : Below W.heap.size W w) (hne : K.e ≠ 25 := by decide) :
    GR.Own K ((w.setCell ⟨g, 0, none⟩ u).setCell ⟨g, 1, none⟩ v) B x l := by
  have b1 := bg.below hb bg.lt
  have hs : ∀ (w : World) (i : Nat) (cs : Array Value) (u : Value), GR.Own K w B x l → GR.Blk w g 25 cs → GR.Own K (w.setCell ⟨g, i, none⟩ u) B x l := fun w i cs u h b =>
    h.grown (row := some g) ⟨rfl, rfl, rfl, by simp [World.setCell], fun k _ hk => Below.heap_setCell _ _ _ _ (by intro e; subst e; exact hk rfl)⟩ (.inr (GR.own_blk_ne h b hne))
  exact hs _ 1 _ v (hs _ 0 _ u h b1) (b1.set_ 0 u)
end Go.Proofs.Ytljfigikkajlnaa
namespace Go.Proofs.Ytljfigikkajlnaa
open Go.RowKit
set_option linter.unusedVariables false
set_option linter.unusedSimpArgs false
namespace GR
variable {α : Type} {K : Kind α}
variable {P : Program} {ops : Array Oper} {o : Oper} {a : Act} {Q : Exit → Act → World → Prop}
/-- append(v, x...) at a step of a region that draws its order. -/
theorem step_all {w : World} {E : Prop} {K' : Act → World → Prop} {i : TypeInfo} {z : Value} (hgd : o.guard = none) (s x : Operand) (t : TypeId)
    (ho : o.op = .call { callee := .builtin .append, args := #[s, x], argTypes := #[t, t] })
    (ht : P.underlying t = some (.slice K.e)) (hi : P.info? K.e = some i) (hz : i.zero = some z) (hsize : i.size = K.s) (hby : i.bytes = K.b) (hzs : z.cells.size = K.s)
    (B : Nat) (v : Value) (xs : List α) (hs : a.eval s = v) (hown : Own K w B v xs) (A : Option Addr) (n c : Nat) (ys : List α) (hx : a.eval x = .slice A n c) (hn : n = ys.length) (hr : Rd K w A ys)
    (hb : (xs.length + ys.length) * K.b ≤ 140737488355328) (hbase : B ≤ w.heap.size)
    (h : ∀ v' w', Own K w' B v' (xs ++ ys) → w.grownBy w' v.ownBlock → (v'.ownBlock = v.ownBlock ∨ v'.ownBlock = some w.heap.size) → K' (a.put o.dst v') w') :
    if Region.wanted o (yielded ops a.tmps) = true then Oper.wp P o a w K' Q else E := by
  subst hn
  have hlen : xs.length + ys.length ≤ 140737488355328 := Nat.le_trans (Nat.le_mul_of_pos_right _ K.hb) hb
  refine step_append_any w hgd s x t ho B K.e i z K.s K.b ht hi hz hsize hby hzs K.hs v xs.length (cs K xs) hs hown w.heap.size A ys.length c (cs K ys) hx hr.2 (cs_one ys) (by simp only [maxLen]; omega) hb hbase fun v' w' h1 h2 h3 => h v' w' ?_ h2 h3
  show w'.ownsRow B K.e K.s v' (xs ++ ys).length (cs K (xs ++ ys))
  rw [List.length_append, cs_append]; exact h1
end GR
end Go.Proofs.Ytljfigikkajlnaa
namespace Go.Proofs.Ytljfigikkajlnaa
open Go.RowKit
set_option linter.unusedVariables false
set_option linter.unusedSimpArgs false
def rest10 (a b : List Dot) : List Dot := b.filter fun y => decide (look a y.a = 0)
def all10 (a b : List Dot) : List Dot := a ++ rest10 a b
def upd10 (a b : List Dot) (z : Dot) : Dot := ⟨z.a, max (look a z.a) (look b z.a)⟩
theorem rest_succ (a b : List Dot) (k : Nat) (hk : k < b.length) : rest10 a (b.take (k + 1)) = if look a b[k].a = 0 then rest10 a (b.take k) ++ [b[k]] else rest10 a (b.take k) := by
  rw [List.take_succ_eq_append_getElem hk]
  unfold rest10
  rw [List.filter_append]
  split <;> simp [*]
theorem rest_len (a b : List Dot) : (rest10 a b).length ≤ b.length := List.length_filter_le _ _
theorem all_dist {a b : List Dot} (ha : vecB a = true) (hb : vecB b = true) : (all10 a b).Pairwise fun x y => x.a ≠ y.a := by
  unfold all10
  rw [List.pairwise_append]
  refine ⟨(vec_ris ha).imp fun h => by omega, ((vec_ris hb).filter _).imp fun h => by omega, fun x hx y hy h => ?_⟩
  have h1 := (List.mem_filter.1 hy).2
  have h2 := look_mem (vec_ris ha) hx
  have h3 := (vec_ok ha x hx).1
  rw [h] at h2
  simp only [decide_eq_true_eq] at h1
  omega
/-- The first i dots, in order, with their counts. -/
def InsOk (a b : List Dot) (i : Nat) (P : List Dot) : Prop :=
  P.length = i ∧ Ris P ∧ (∀ d ∈ P, d.n = max (look a d.a) (look b d.a) ∧ ∃ z ∈ (all10 a b).take i, z.a = d.a) ∧ ∀ z ∈ (all10 a b).take i, ∃ d ∈ P, d.a = z.a
theorem ins_zero (a b : List Dot) : InsOk a b 0 [] := ⟨rfl, List.Pairwise.nil, by simp, by simp⟩
theorem ins_next {a b : List Dot} (ha : vecB a = true) (hb : vecB b = true) {i : Nat} {P1 P2 : List Dot} (hi : i < (all10 a b).length) (h : InsOk a b i (P1 ++ P2)) (h2 : ∀ d ∈ P2, (all10 a b)[i].a < d.a)
    (h1 : P1 = [] ∨ ∃ Q p, P1 = Q ++ [p] ∧ p.a ≤ (all10 a b)[i].a) : InsOk a b (i + 1) (P1 ++ upd10 a b (all10 a b)[i] :: P2) := by
  obtain ⟨hl, hr, hv, hw⟩ := h
  have hd := all_dist ha hb
  have ht : (all10 a b).take (i + 1) = (all10 a b).take i ++ [(all10 a b)[i]] := List.take_succ_eq_append_getElem hi
  have hne : ∀ d ∈ P1 ++ P2, d.a ≠ (all10 a b)[i].a := by
    intro d hd1 he
    obtain ⟨z, hz, hza⟩ := (hv d hd1).2
    obtain ⟨j, hj, rfl⟩ := List.getElem_of_mem hz
    simp only [List.length_take] at hj
    rw [List.getElem_take] at hza
    have := List.pairwise_iff_getElem.1 hd j i (by omega) hi (by omega)
    omega
  have hr' := List.pairwise_append.1 hr
  have hlt : ∀ d ∈ P1, d.a < (all10 a b)[i].a := by
    intro d hd1
    rcases h1 with rfl | ⟨Q, p, rfl, hp⟩
    · cases hd1
    · have hn := hne d (List.mem_append_left _ hd1)
      rcases List.mem_append.1 hd1 with hq | hq
      · have := (List.pairwise_append.1 hr'.1).2.2 d hq p (by simp); omega
      · simp only [List.mem_singleton] at hq; subst hq; omega
  refine ⟨by simp only [List.length_append, List.length_cons] at *; omega, ?_, ?_, ?_⟩
  · refine List.pairwise_append.2 ⟨hr'.1, List.Pairwise.cons (fun d hd2 => h2 d hd2) hr'.2.1, fun x hx y hy => ?_⟩
    rcases List.mem_cons.1 hy with rfl | hy
    · exact hlt x hx
    · exact hr'.2.2 x hx y hy
  · intro d hd1
    rw [ht]
    rcases List.mem_append.1 hd1 with h | h
    · obtain ⟨e, z, hz, hza⟩ := hv d (List.mem_append_left _ h); exact ⟨e, z, List.mem_append_left _ hz, hza⟩
    · rcases List.mem_cons.1 h with rfl | h
      · exact ⟨rfl, _, List.mem_append_right _ (List.mem_singleton.2 rfl), rfl⟩
      · obtain ⟨e, z, hz, hza⟩ := hv d (List.mem_append_right _ h); exact ⟨e, z, List.mem_append_left _ hz, hza⟩
  · intro z hz
    rw [ht] at hz
    rcases List.mem_append.1 hz with h | h
    · obtain ⟨d, hd1, e⟩ := hw z h
      rcases List.mem_append.1 hd1 with h3 | h3
      · exact ⟨d, List.mem_append_left _ h3, e⟩
      · exact ⟨d, List.mem_append_right _ (List.mem_cons_of_mem _ h3), e⟩
    · simp only [List.mem_singleton] at h; subst h
      exact ⟨upd10 a b (all10 a b)[i], by simp, rfl⟩
theorem ins_end {a b : List Dot} (ha : vecB a = true) (hb : vecB b = true) {P : List Dot} (h : InsOk a b (all10 a b).length P) : P = vmax a b := by
  obtain ⟨_, hr, hv, hw⟩ := h
  rw [List.take_length] at hv hw
  have pa : ∀ d ∈ a, 1 ≤ d.n := fun d hd => (vec_ok ha d hd).1
  have pb : ∀ d ∈ b, 1 ≤ d.n := fun d hd => (vec_ok hb d hd).1
  have hin : ∀ k, (look a k ≠ 0 ∨ look b k ≠ 0) → ∃ z ∈ all10 a b, z.a = k := by
    intro k hk
    rcases look_cases a k with ⟨h1, _⟩ | ⟨x, hx, h1, _⟩
    · rcases look_cases b k with ⟨h2, _⟩ | ⟨y, hy, h2, _⟩
      · omega
      · exact ⟨y, List.mem_append_right _ (List.mem_filter.2 ⟨hy, by simp [h2, h1]⟩), h2⟩
    · exact ⟨x, List.mem_append_left _ hx, h1⟩
  have hpos : ∀ d ∈ P, 1 ≤ d.n := by
    intro d hd
    obtain ⟨e, z, hz, hza⟩ := hv d hd
    have ba := look_bound ha d.a
    have bb := look_bound hb d.a
    rcases List.mem_append.1 hz with h | h
    · have h1 := look_mem (vec_ris ha) h
      have := pa z h
      rw [hza] at h1; omega
    · have h0 := (List.mem_filter.1 h).1
      have h1 := look_mem (vec_ris hb) h0
      have := pb z h0
      rw [hza] at h1; omega
  refine look_ext hr (vmax_ris a b (vec_ris ha) (vec_ris hb)) hpos (fun d hd => (vmax_ok ha hb d hd).1) fun k => ?_
  rw [vmax_look a b (vec_ris ha) (vec_ris hb) pa pb]
  rcases look_cases P k with ⟨h1, h2⟩ | ⟨d, hd, h1, h2⟩
  · rw [h1]
    by_cases hk : look a k ≠ 0 ∨ look b k ≠ 0
    · obtain ⟨z, hz, e⟩ := hin k hk
      obtain ⟨d, hd, e2⟩ := hw z hz
      exact absurd (e2.trans e) (h2 d hd)
    · omega
  · rw [h2, (hv d hd).1, h1]
/-- A dot of a row of the call's own, as the walk reads and writes it. -/
theorem own_dot {w : World} {B g n cap : Nat} {l : List Dot} (h : GR.Own dotK w B (.slice (some ⟨g, 0, none⟩) n cap) l) {i : Nat} {x : Dot} (hx : l[i]? = some x) :
    w.cell? ⟨g, i * 2, none⟩ = some (.int .u32 x.a) ∧ w.cell? ⟨g, i * 2 + 1, none⟩ = some (.int .u64 x.n) ∧ w.frozen? ⟨g, i * 2, none⟩ = false ∧ w.frozen? ⟨g, i * 2 + 1, none⟩ = false := by
  obtain ⟨hi, rfl⟩ := List.getElem?_eq_some_iff.1 hx
  have h0 := h.cells i hi 0 _ rfl
  have h1 := h.cells i hi 1 _ rfl
  exact ⟨h0.1, h1.1, h0.2, h1.2⟩
theorem dots_set (l : List Dot) (i : Nat) (x : Dot) (hi : i < l.length) : GR.cs dotK (l.set i x) = ((GR.cs dotK l).set (i * 2) (.int .u32 x.a)).set (i * 2 + 1) (.int .u64 x.n) := by
  induction l generalizing i with
  | nil => exact absurd hi (by simp)
  | cons y l ih =>
    cases i with
    | zero => simp [GR.cs_cons, dotK]
    | succ i =>
      rw [List.set_cons_succ, GR.cs_cons, GR.cs_cons, ih i (by simpa using hi)]
      rw [show (i + 1) * 2 = i * 2 + 1 + 1 by omega]
      simp [dotK]
theorem dots_setn (l : List Dot) (i : Nat) (n : Int) (x : Dot) (hx : l[i]? = some x) : GR.cs dotK (l.set i ⟨x.a, n⟩) = (GR.cs dotK l).set (i * 2 + 1) (.int .u64 n) := by
  induction l generalizing i with
  | nil => simp at hx
  | cons y l ih =>
    cases i with
    | zero => simp only [List.getElem?_cons_zero, Option.some.injEq] at hx; subst hx; simp [GR.cs_cons, dotK]
    | succ i =>
      rw [List.set_cons_succ, GR.cs_cons, GR.cs_cons, ih i (by simpa using hx)]
      rw [show (i + 1) * 2 = i * 2 + 1 + 1 by omega]
      simp [dotK]
theorem own_len {α : Type} {K : GR.Kind α} {w : World} {B g n cap : Nat} {l : List α} (h : GR.Own K w B (.slice (some ⟨g, 0, none⟩) n cap) l) : n = l.length := by
  rcases h.2 with ⟨hv, _⟩ | ⟨_, _, _, hv, _⟩
  · cases hv
  · injection hv
theorem own_setd {w : World} {B g n cap : Nat} {l : List Dot} (h : GR.Own dotK w B (.slice (some ⟨g, 0, none⟩) n cap) l) (i : Nat) (hi : i < l.length) (x : Dot) :
    GR.Own dotK ((w.setCell ⟨g, i * 2, none⟩ (.int .u32 x.a)).setCell ⟨g, i * 2 + 1, none⟩ (.int .u64 x.n)) B (.slice (some ⟨g, 0, none⟩) n cap) (l.set i x) := by
  obtain rfl := own_len h
  have := (World.ownsRow.stored (World.ownsRow.stored h (i * 2) (.int .u32 x.a)).1 (i * 2 + 1) (.int .u64 x.n)).1
  unfold GR.Own
  rw [List.length_set, dots_set l i x hi]
  exact this
theorem own_setn {w : World} {B g n cap : Nat} {l : List Dot} (h : GR.Own dotK w B (.slice (some ⟨g, 0, none⟩) n cap) l) (i : Nat) (x : Dot) (hx : l[i]? = some x) (m : Int) :
    GR.Own dotK (w.setCell ⟨g, i * 2 + 1, none⟩ (.int .u64 m)) B (.slice (some ⟨g, 0, none⟩) n cap) (l.set i ⟨x.a, m⟩) := by
  obtain rfl := own_len h
  have := (World.ownsRow.stored h (i * 2 + 1) (.int .u64 m)).1
  unfold GR.Own
  rw [List.length_set, dots_setn l i m x hx]
  exact this
end Go.Proofs.Ytljfigikkajlnaa
