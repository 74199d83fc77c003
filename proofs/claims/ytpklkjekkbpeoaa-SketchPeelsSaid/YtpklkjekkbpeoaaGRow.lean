/- DERIVED. Rows of elements of any kind that are written out in one-cell values: reading, growing, cutting, storing. (The lemmas 'Reads', 'append_any', 'Blk' are the guide's own, turned to this claim.) -/
import Derived.Test.YtpklkjekkbpeoaaProg
import Derived.Below
import Derived.Deep.Draws
import Derived.Deep.AppendLies
import Derived.Maps.AppendAt
import Derived.OwnWalk
import Derived.Laws.OwnMore
import Derived.Laws.Rows
import Derived.WalkKit
import Derived.KernelRfl
import Derived.RegionTactic
namespace Go.Proofs.Ytpklkjekkbpeoaa.GR
open Go.RowKit
set_option linter.unusedVariables false
set_option linter.unusedSimpArgs false

theorem block_of_add (a : Addr) (n : Nat) : (a.add n).block = a.block := by unfold Addr.add; split <;> rfl
theorem add_of_add (a : Addr) (i j : Nat) : (a.add i).add j = a.add (i + j) := by
  unfold Addr.add
  by_cases hi : i = 0 <;> by_cases hj : j = 0 <;> simp [hi, hj, Nat.add_assoc]

def Reads (w : World) (B size : Nat) (A : Option Addr) (n : Nat) (xs : List Value) : Prop :=
  xs.length = n * size ∧ (0 < n → ∃ ad, A = some ad ∧ ad.block < B ∧ ∀ j u, xs[j]? = some u → w.cell? (ad.add j) = some u)

section
variable {w w' : World} {B B' size n : Nat} {A : Option Addr} {xs : List Value}
theorem Reads.none_ : Reads w B size A 0 [] := ⟨by simp, fun h => absurd h (by omega)⟩
theorem Reads.at_ {k : Nat} (h : Reads w B 1 A n xs) (hk : k < n) : ∃ ad u, A = some ad ∧ ad.block < B ∧ xs[k]? = some u ∧ w.cell? (ad.add k) = some u := by
  obtain ⟨ad, e, hb, hc⟩ := h.2 (by omega)
  have hl : k < xs.length := by have := h.1; omega
  exact ⟨ad, xs[k], e, hb, List.getElem?_eq_getElem hl, hc k _ (List.getElem?_eq_getElem hl)⟩
theorem Reads.keep (h : Reads w B size A n xs) (hk : ∀ p : Addr, p.block < B → w'.cell? p = w.cell? p) : Reads w' B size A n xs :=
  ⟨h.1, fun hn => by
    obtain ⟨ad, e, hb, hc⟩ := h.2 hn
    exact ⟨ad, e, hb, fun j u hu => (hk _ (by rw [block_of_add]; exact hb)).trans (hc j u hu)⟩⟩
theorem Reads.more (h : Reads w B size A n xs) (hB : B ≤ B') : Reads w B' size A n xs :=
  ⟨h.1, fun hn => by
    obtain ⟨ad, e, hb, hc⟩ := h.2 hn
    exact ⟨ad, e, by omega, hc⟩⟩
theorem Reads.below (h : Reads w B size A n xs) (hb : Below B w w') : Reads w' B size A n xs := h.keep fun _ hp => hb.cell hp
theorem Reads.drew (h : Reads w B size A n xs) : Reads w.drew B size A n xs := h
theorem Reads.drewN (h : Reads w B size A n xs) (k : Nat) : Reads (w.drewN k) B size A n xs := h
theorem Reads.alloc (h : Reads w B size A n xs) (hB : B ≤ w.heap.size) (o : Obj) : Reads (w.alloc o) B size A n xs := h.keep fun p hp => World.cell?_alloc_lt w o p (by omega)
theorem Reads.setCell (h : Reads w B size A n xs) {p : Addr} (hB : B ≤ p.block) (u : Value) : Reads (w.setCell p u) B size A n xs :=
  h.keep fun q hq => World.cell?_setCell_other w p q u (fun e => by subst e; omega)
theorem Reads.grown (h : Reads w B size A n xs) {row : Option Nat} (hg : w.grownBy w' row) (hB : B ≤ w.heap.size) (hr : ∀ g, row = some g → B ≤ g) : Reads w' B size A n xs :=
  h.keep fun p hp => World.cell?_of_block (hg.block p.block (by omega) (fun e => by have := hr _ e.symm; omega))
theorem Reads.cut (h : Reads w B size A n xs) {k cap : Nat} (hk : k ≤ n) (hc : n ≤ cap) :
    Reads w B size (if cap = k then A else A.map (·.add (k * size))) (n - k) (xs.drop (k * size)) := by
  refine ⟨by rw [List.length_drop, h.1, Nat.sub_mul], fun hn => ?_⟩
  obtain ⟨ad, rfl, hb, hcell⟩ := h.2 (by omega)
  rw [if_neg (by omega)]
  refine ⟨ad.add (k * size), rfl, by rw [block_of_add]; exact hb, fun j u hu => ?_⟩
  rw [add_of_add]
  exact hcell _ u (by rw [← hu, List.getElem?_drop])
theorem Reads.of_own {base : Nat} {e : TypeId} {c : Nat} (h : w.ownsRow base e size (.slice A n c) n xs) : Reads w w.heap.size size A n xs := by
  refine ⟨h.1, fun hn => ?_⟩
  obtain ⟨g, cap, hv, _, hlt⟩ := h.form hn
  have hA : A = some ⟨g, 0, none⟩ := by injection hv
  subst hA
  exact ⟨_, rfl, hlt, h.cells (g := g) rfl⟩
end

def Blk (w : World) (g : Nat) (t : TypeId) (cs : Array Value) : Prop := w.heap[g]? = some (.cells cs t (0, 0))

section
variable {w w' : World} {g : Nat} {t : TypeId} {cs : Array Value}
theorem Blk.lt (h : Blk w g t cs) : g < w.heap.size := by
  rcases Nat.lt_or_ge g w.heap.size with hlt | hge
  · exact hlt
  · unfold Blk at h; rw [Array.getElem?_eq_none hge] at h; cases h
theorem Blk.cell (h : Blk w g t cs) (i : Nat) : w.cell? ⟨g, i, none⟩ = cs[i]? := cell_of_row w g i cs t (0, 0) h
theorem Blk.frozen (h : Blk w g t cs) (i : Nat) : w.frozen? ⟨g, i, none⟩ = false := by
  unfold Blk at h
  simp [World.frozen?, h]
theorem Blk.new (w : World) (t : TypeId) (cs : Array Value) : Blk (w.alloc (.cells cs t)) w.heap.size t cs := heap_alloc_new w _
theorem Blk.drew (h : Blk w g t cs) : Blk w.drew g t cs := h
theorem Blk.drewN (h : Blk w g t cs) (n : Nat) : Blk (w.drewN n) g t cs := h
theorem Blk.alloc (h : Blk w g t cs) (o : Obj) : Blk (w.alloc o) g t cs := (Below.heap_alloc w o g h.lt).trans h
theorem Blk.set_ (h : Blk w g t cs) (i : Nat) (u : Value) : Blk (w.setCell ⟨g, i, none⟩ u) g t (cs.setIfInBounds i u) := by
  unfold Blk at h ⊢
  simp [World.setCell, Array.getElem?_modify, h]
theorem Blk.far (h : Blk w g t cs) {p : Addr} (hp : g ≠ p.block) (u : Value) : Blk (w.setCell p u) g t cs := (Below.heap_setCell w p u g hp).trans h
theorem Blk.below {B : Nat} (h : Blk w g t cs) (hb : Below B w w') (hg : g < B) : Blk w' g t cs := (hb.block g hg).trans h
theorem Blk.grown {row : Option Nat} (h : Blk w g t cs) (hb : w.grownBy w' row) (hg : some g ≠ row) : Blk w' g t cs := (hb.block g h.lt hg).trans h
theorem Blk.ne_ {g' : Nat} {t' : TypeId} {cs' : Array Value} (h : Blk w g t cs) (h' : Blk w g' t' cs') (hne : t ≠ t') : g ≠ g' := by
  rintro rfl
  unfold Blk at h h'
  rw [h] at h'
  injection h' with h'
  injection h' with _ ht
  exact hne ht
theorem own_blk_ne {base : Nat} {e : TypeId} {size n : Nat} {v : Value} {xs : List Value} (h : w.ownsRow base e size v n xs) (hg : Blk w g t cs) (hne : e ≠ t) : v.ownBlock ≠ some g := by
  rcases h.2 with ⟨rfl, _⟩ | ⟨g', cap, cur, rfl, _, hh, _⟩
  · simp [Value.ownBlock]
  · intro he
    have : g' = g := by simpa [Value.ownBlock] using he
    subst this
    exact Blk.ne_ (t := e) hh hg hne rfl
end

section
variable {P : Program} (w : World)

theorem run_append_of_nil (base : Nat) (t ty e : TypeId) (i : TypeInfo) (size : Nat) (ht : P.underlying t = some (.slice e)) (hi : P.info? e = some i)
    (v : Value) (n : Nat) (xs : List Value) (hown : w.ownsRow base e size v n xs) (c : Nat) : (Builtin.append_ #[t, t] ty #[v, .slice none 0 c]).run P w = .ok v w := by
  rcases hown.2 with ⟨rfl, rfl⟩ | ⟨g, cap, cur, rfl, _, _, hnc, _⟩
  · simp [Builtin.append_, run_underlying ht, sizeOf, typeInfo, hi, Builtin.lenOf, Builtin.firstCells]
  · simp [Builtin.append_, run_underlying ht, sizeOf, typeInfo, hi, Builtin.lenOf, Builtin.firstCells, hnc, storeCells]

theorem run_append_any (base : Nat) (t ty e : TypeId) (i : TypeInfo) (z : Value) (size bytes : Nat) (ht : P.underlying t = some (.slice e)) (hi : P.info? e = some i) (hz : i.zero = some z)
    (hsize : i.size = size) (hby : i.bytes = bytes) (hzs : z.cells.size = size) (hsz : 0 < size)
    (v : Value) (n : Nat) (xs : List Value) (hown : w.ownsRow base e size v n xs)
    (B : Nat) (A : Option Addr) (m c : Nat) (news : List Value) (hr : Reads w B size A m news) (h1 : ∀ u ∈ news, u.oneCell' = true)
    (h63 : n + m ≤ maxLen) (hbytes : (n + m) * bytes ≤ 140737488355328) (hbase : base ≤ w.heap.size) :
    ∃ v' w', (Builtin.append_ #[t, t] ty #[v, .slice A m c]).run P w = .ok v' w' ∧ w'.ownsRow base e size v' (n + m) (xs ++ news) ∧ w.grownBy w' v.ownBlock ∧
      (v'.ownBlock = v.ownBlock ∨ v'.ownBlock = some w.heap.size) := by
  rcases A with _ | ad
  · have hm : m = 0 := by
      rcases Nat.eq_zero_or_pos m with h0 | h0
      · exact h0
      · obtain ⟨ad, h, _⟩ := hr.2 h0
        cases h
    subst hm
    have hn : news = [] := List.eq_nil_of_length_eq_zero (by simpa using hr.1)
    subst hn
    exact ⟨v, w, run_append_of_nil w base t ty e i size ht hi v n xs hown c, by simpa using hown, World.grownBy.refl w _, .inl rfl⟩
  · have hcells : ∀ j u, news[j]? = some u → w.cell? (ad.add j) = some u := by
      intro j u hu
      rcases Nat.eq_zero_or_pos m with h0 | h0
      · subst h0
        have hn : news = [] := List.eq_nil_of_length_eq_zero (by simpa using hr.1)
        subst hn
        simp at hu
      · obtain ⟨ad', h, _, hc⟩ := hr.2 h0
        injection h with h
        subst h
        exact hc j u hu
    obtain ⟨v', w', hrun, h2, h3, _, h5⟩ := run_append_own_at (P := P) w base t ty e i z size bytes ht hi hz hsize hby hzs hsz v n xs hown ad m c news hr.1 hcells h1 h63 hbytes hbase
    exact ⟨v', w', hrun, h2, h3, h5⟩

theorem wp_append_any {o : Oper} {a : Act} {K : Act → World → Prop} {Q : Exit → Act → World → Prop} (s x : Operand) (t : TypeId)
    (ho : o.op = .call { callee := .builtin .append, args := #[s, x], argTypes := #[t, t] })
    (base : Nat) (e : TypeId) (i : TypeInfo) (z : Value) (size bytes : Nat) (ht : P.underlying t = some (.slice e)) (hi : P.info? e = some i) (hz : i.zero = some z)
    (hsize : i.size = size) (hby : i.bytes = bytes) (hzs : z.cells.size = size) (hsz : 0 < size)
    (v : Value) (n : Nat) (xs : List Value) (hs : a.eval s = v) (hown : w.ownsRow base e size v n xs)
    (B : Nat) (A : Option Addr) (m c : Nat) (news : List Value) (hx : a.eval x = .slice A m c) (hr : Reads w B size A m news) (h1 : ∀ u ∈ news, u.oneCell' = true)
    (h63 : n + m ≤ maxLen) (hbytes : (n + m) * bytes ≤ 140737488355328) (hbase : base ≤ w.heap.size)
    (h : ∀ v' w', w'.ownsRow base e size v' (n + m) (xs ++ news) → w.grownBy w' v.ownBlock → (v'.ownBlock = v.ownBlock ∨ v'.ownBlock = some w.heap.size) → K (a.put o.dst v') w') : o.wp P a w K Q := by
  obtain ⟨v', w', hrun, h2, h3, h4⟩ := run_append_any (P := P) w base t o.type e i z size bytes ht hi hz hsize hby hzs hsz v n xs hown B A m c news hr h1 h63 hbytes hbase
  unfold Oper.wp execOp
  simp only [ho, resolve, invoke, builtin, Sem.run_bind, Sem.run_pure, Result.andThen_ok, List.map_toArray, List.map_cons, List.map_nil, hs, hx, hrun]
  exact h v' w' h2 h3 h4

theorem wpList_append_any {ops : Array Oper} {rest : List Oper} {o : Oper} {a : Act} {Q : Exit → Act → World → Prop} (hgd : o.guard = none) (s x : Operand) (t : TypeId)
    (ho : o.op = .call { callee := .builtin .append, args := #[s, x], argTypes := #[t, t] })
    (base : Nat) (e : TypeId) (i : TypeInfo) (z : Value) (size bytes : Nat) (ht : P.underlying t = some (.slice e)) (hi : P.info? e = some i) (hz : i.zero = some z)
    (hsize : i.size = size) (hby : i.bytes = bytes) (hzs : z.cells.size = size) (hsz : 0 < size)
    (v : Value) (n : Nat) (xs : List Value) (hs : a.eval s = v) (hown : w.ownsRow base e size v n xs)
    (B : Nat) (A : Option Addr) (m c : Nat) (news : List Value) (hx : a.eval x = .slice A m c) (hr : Reads w B size A m news) (h1 : ∀ u ∈ news, u.oneCell' = true)
    (h63 : n + m ≤ maxLen) (hbytes : (n + m) * bytes ≤ 140737488355328) (hbase : base ≤ w.heap.size)
    (h : ∀ v' w', w'.ownsRow base e size v' (n + m) (xs ++ news) → w.grownBy w' v.ownBlock → (v'.ownBlock = v.ownBlock ∨ v'.ownBlock = some w.heap.size) → wpList P ops Q rest (a.put o.dst v') w') : wpList P ops Q (o :: rest) a w :=
  wpList_plain hgd fun _ hK => wp_append_any w s x t ho base e i z size bytes ht hi hz hsize hby hzs hsz v n xs hs hown B A m c news hx hr h1 h63 hbytes hbase fun v' w' h2 h3 h4 => hK _ _ (h v' w' h2 h3 h4)

theorem step_append_any {ops : Array Oper} {o : Oper} {a : Act} {K : Act → World → Prop} {Q : Exit → Act → World → Prop} {E : Prop} (hgd : o.guard = none) (s x : Operand) (t : TypeId)
    (ho : o.op = .call { callee := .builtin .append, args := #[s, x], argTypes := #[t, t] })
    (base : Nat) (e : TypeId) (i : TypeInfo) (z : Value) (size bytes : Nat) (ht : P.underlying t = some (.slice e)) (hi : P.info? e = some i) (hz : i.zero = some z)
    (hsize : i.size = size) (hby : i.bytes = bytes) (hzs : z.cells.size = size) (hsz : 0 < size)
    (v : Value) (n : Nat) (xs : List Value) (hs : a.eval s = v) (hown : w.ownsRow base e size v n xs)
    (B : Nat) (A : Option Addr) (m c : Nat) (news : List Value) (hx : a.eval x = .slice A m c) (hr : Reads w B size A m news) (h1 : ∀ u ∈ news, u.oneCell' = true)
    (h63 : n + m ≤ maxLen) (hbytes : (n + m) * bytes ≤ 140737488355328) (hbase : base ≤ w.heap.size)
    (h : ∀ v' w', w'.ownsRow base e size v' (n + m) (xs ++ news) → w.grownBy w' v.ownBlock → (v'.ownBlock = v.ownBlock ∨ v'.ownBlock = some w.heap.size) → K (a.put o.dst v') w') :
    if Region.wanted o (yielded ops a.tmps) = true then Oper.wp P o a w K Q else E := by
  have hw : Region.wanted o (yielded ops a.tmps) = true := by simp [Region.wanted, hgd]
  rw [if_pos hw]
  exact wp_append_any w s x t ho base e i z size bytes ht hi hz hsize hby hzs hsz v n xs hs hown B A m c news hx hr h1 h63 hbytes hbase h
end

/-- A kind of elements: the type's number, cells and bytes an element, and how one is written out. -/
structure Kind (α : Type) where
  e : TypeId
  s : Nat
  b : Nat
  enc : α → List Value
  len : ∀ x, (enc x).length = s
  one : ∀ x, ∀ u ∈ enc x, u.oneCell' = true
  hs : 0 < s
  hb : 0 < b

section
variable {α : Type} {K : Kind α}
def cs (K : Kind α) (l : List α) : List Value := l.flatMap K.enc
theorem cs_nil : cs K [] = [] := rfl
theorem cs_cons (x : α) (l : List α) : cs K (x :: l) = K.enc x ++ cs K l := rfl
theorem cs_append (l m : List α) : cs K (l ++ m) = cs K l ++ cs K m := by simp [cs]
theorem cs_length (l : List α) : (cs K l).length = l.length * K.s := by
  induction l with
  | nil => simp [cs]
  | cons x l ih => rw [cs_cons, List.length_append, ih, K.len, List.length_cons, Nat.add_mul]; omega
theorem cs_at (l : List α) (i j : Nat) (x : α) (h : l[i]? = some x) (hj : j < K.s) : (cs K l)[i * K.s + j]? = (K.enc x)[j]? := by
  induction l generalizing i with
  | nil => simp at h
  | cons y l ih =>
    rw [cs_cons]
    cases i with
    | zero =>
      simp at h
      subst h
      rw [Nat.zero_mul, Nat.zero_add, List.getElem?_append_left (by rw [K.len]; exact hj)]
    | succ i =>
      have h' : l[i]? = some x := by simpa using h
      rw [List.getElem?_append_right (by rw [K.len, Nat.add_mul]; omega), K.len, ← ih i h']
      congr 1
      rw [Nat.add_mul]; omega
theorem cs_of (l : List α) (k : Nat) (u : Value) (h : (cs K l)[k]? = some u) : ∃ i j x, l[i]? = some x ∧ j < K.s ∧ k = i * K.s + j ∧ (K.enc x)[j]? = some u := by
  have hk : k < l.length * K.s := by rw [← cs_length]; exact (List.getElem?_eq_some_iff.1 h).1
  have hs := K.hs
  have hi : k / K.s < l.length := by rw [Nat.div_lt_iff_lt_mul hs]; exact hk
  have hj : k % K.s < K.s := Nat.mod_lt _ hs
  have hx : l[k / K.s]? = some l[k / K.s] := List.getElem?_eq_getElem hi
  have he : k = k / K.s * K.s + k % K.s := by rw [Nat.mul_comm]; exact (Nat.div_add_mod k K.s).symm
  refine ⟨k / K.s, k % K.s, _, hx, hj, he, ?_⟩
  rw [← cs_at l _ _ _ hx hj, ← he]
  exact h
theorem cs_one (l : List α) : ∀ u ∈ cs K l, u.oneCell' = true := by
  intro u hu
  obtain ⟨x, _, hx⟩ := List.mem_flatMap.1 hu
  exact K.one x u hx

/-- A slice at address A reads as the elements l. -/
def Rd (K : Kind α) (w : World) (A : Option Addr) (l : List α) : Prop := l.length * K.b ≤ 140737488355328 ∧ Reads w w.heap.size K.s A l.length (cs K l)
theorem Rd.max {w : World} {A : Option Addr} {l : List α} (h : Rd K w A l) : l.length * K.b ≤ 140737488355328 := h.1
theorem Rd.below {w w' : World} {A : Option Addr} {l : List α} (h : Rd K w A l) (hb : Below w.heap.size w w') : Rd K w' A l := ⟨h.1, (h.2.below hb).more hb.size⟩
theorem Rd.drewN {w : World} {A : Option Addr} {l : List α} (h : Rd K w A l) (n : Nat) : Rd K (w.drewN n) A l := h
theorem Rd.drew {w : World} {A : Option Addr} {l : List α} (h : Rd K w A l) : Rd K w.drew A l := h
theorem Rd.alloc {w : World} {A : Option Addr} {l : List α} (h : Rd K w A l) (o : Obj) : Rd K (w.alloc o) A l := h.below ((Below.refl _ _).alloc (Nat.le_refl _) o)
theorem Rd.nil (K : Kind α) (w : World) (A : Option Addr) : Rd K w A [] := ⟨by simp, by simp [Reads, cs]⟩
theorem Rd.at_ {w : World} {A : Option Addr} {l : List α} (h : Rd K w A l) (i : Nat) (hi : i < l.length) : ∃ ad, A = some ad ∧ ad.block < w.heap.size ∧ ∀ j u, (K.enc l[i])[j]? = some u → w.cell? (ad.add (i * K.s + j)) = some u := by
  obtain ⟨ad, e, hb, hc⟩ := h.2.2 (by omega)
  refine ⟨ad, e, hb, fun j u hu => hc _ u ?_⟩
  have hj : j < K.s := by have := (List.getElem?_eq_some_iff.1 hu).1; rw [K.len] at this; exact this
  rw [cs_at l i j _ (List.getElem?_eq_getElem hi) hj]
  exact hu
theorem Rd.take {w : World} {A : Option Addr} {l : List α} (h : Rd K w A l) (m : Nat) : Rd K w A (l.take m) := by
  refine ⟨Nat.le_trans (Nat.mul_le_mul_right _ (by simp; omega)) h.1, cs_length _, fun hn => ?_⟩
  obtain ⟨ad, e, hb, hc⟩ := h.2.2 (by simp at hn; omega)
  refine ⟨ad, e, hb, fun k u hu => hc k u ?_⟩
  obtain ⟨i, j, x, hx, hj, rfl, hu2⟩ := cs_of _ k u hu
  have hi : i < m := by have := (List.getElem?_eq_some_iff.1 hx).1; simp at this; omega
  rw [List.getElem?_take_of_lt hi] at hx
  rw [cs_at l i j x hx hj, hu2]
theorem Rd.drop {w : World} {ad : Addr} {l : List α} (h : Rd K w (some ad) l) (i c : Nat) (hc : l.length ≤ c) (hi : i ≤ l.length) (B : Addr) (hB : i < c → B = ad.add (i * K.s)) : Rd K w (some B) (l.drop i) := by
  refine ⟨Nat.le_trans (Nat.mul_le_mul_right _ (by simp)) h.1, cs_length _, fun hn => ?_⟩
  have hBe := hB (by simp at hn; omega)
  subst hBe
  obtain ⟨ad', e, hb, hcell⟩ := h.2.2 (by simp at hn; omega)
  cases e
  refine ⟨_, rfl, by rw [block_of_add]; exact hb, fun k u hu => ?_⟩
  obtain ⟨m, j, x, hx, hj, rfl, hu2⟩ := cs_of _ k u hu
  rw [add_of_add, ← Nat.add_assoc, ← Nat.add_mul]
  refine hcell _ u ?_
  rw [List.getElem?_drop] at hx
  rw [cs_at l (i + m) j x hx hj, hu2]

/-- A slice value whose row the call made (from block B on), holding the elements l; nil let in. -/
def Own (K : Kind α) (w : World) (B : Nat) (v : Value) (l : List α) : Prop := w.ownsRow B K.e K.s v l.length (cs K l)
theorem Own.nil (K : Kind α) (w : World) (B : Nat) : Own K w B (.slice none 0 0) [] := ⟨by simp [cs], .inl ⟨rfl, rfl⟩⟩
theorem Own.rd {w : World} {B : Nat} {A : Option Addr} {n c : Nat} {l : List α} (h : Own K w B (.slice A n c) l) (hb : l.length * K.b ≤ 140737488355328) : n = l.length ∧ n ≤ c ∧ Rd K w A l := by
  rcases h.2 with ⟨hv, h0⟩ | ⟨g, cap, cur, hv, _, _, hc, _⟩
  · injection hv with h1 h2 h3
    subst h1 h2
    exact ⟨h0.symm, by omega, List.eq_nil_of_length_eq_zero h0 ▸ Rd.nil _ _ _⟩
  · injection hv with h1 h2 h3
    subst h2 h3
    exact ⟨rfl, hc, hb, Reads.of_own h⟩
theorem Own.rd' {w : World} {B : Nat} {v : Value} {l : List α} (h : Own K w B v l) (hb : l.length * K.b ≤ 140737488355328) : ∃ A c, v = .slice A l.length c ∧ l.length ≤ c ∧ Rd K w A l := by
  have hv : ∃ A c, v = .slice A l.length c := by
    rcases h.2 with ⟨rfl, h0⟩ | ⟨g, cap, cur, rfl, _⟩
    · exact ⟨none, 0, by rw [h0]⟩
    · exact ⟨_, cap, rfl⟩
  obtain ⟨A, c, rfl⟩ := hv
  exact ⟨A, c, rfl, (h.rd hb).2.1, (h.rd hb).2.2⟩
theorem Own.grown {w w' : World} {B : Nat} {v : Value} {l : List α} {row : Option Nat} (h : Own K w B v l) (hg : w.grownBy w' row) (hne : v.ownBlock = none ∨ v.ownBlock ≠ row) : Own K w' B v l := World.ownsRow.kept h hg hne
theorem Own.below {w w' : World} {B : Nat} {v : Value} {l : List α} (h : Own K w B v l) (hb : Below w.heap.size w w') : Own K w' B v l :=
  h.grown (row := none) ⟨hb.os, hb.tape, hb.output, hb.size, fun k hk _ => hb.block k hk⟩ (by cases v.ownBlock <;> simp)
theorem Own.lt {w : World} {B : Nat} {v : Value} {l : List α} (h : Own K w B v l) : ∀ k, v.ownBlock = some k → B ≤ k ∧ k < w.heap.size := World.ownsRow.lt h
theorem Own.base {w : World} {B B' : Nat} {v : Value} {l : List α} (h : Own K w B v l) (hB : B' ≤ B) : Own K w B' v l := by
  refine ⟨h.1, ?_⟩
  rcases h.2 with h0 | ⟨g, cap, cur, hv, hb, hr⟩
  · exact .inl h0
  · exact .inr ⟨g, cap, cur, hv, by omega, hr⟩
theorem Own.drew {w : World} {B : Nat} {v : Value} {l : List α} (h : Own K w B v l) : Own K w.drew B v l := h.below ⟨rfl, rfl, rfl, Nat.le_refl _, fun _ _ => rfl⟩
theorem Own.drewN {w : World} {B : Nat} {v : Value} {l : List α} (h : Own K w B v l) (n : Nat) : Own K (w.drewN n) B v l := h.below ⟨rfl, rfl, rfl, Nat.le_refl _, fun _ _ => rfl⟩
theorem Own.alloc {w : World} {B : Nat} {v : Value} {l : List α} (h : Own K w B v l) (o : Obj) : Own K (w.alloc o) B v l := h.below ((Below.refl _ _).alloc (Nat.le_refl _) o)
theorem Own.take {w : World} {B g n cap : Nat} {l m : List α} (h : Own K w B (.slice (some ⟨g, 0, none⟩) n cap) (l ++ m)) : Own K w B (.slice (some ⟨g, 0, none⟩) l.length cap) l := by
  refine ⟨cs_length l, .inr ?_⟩
  rcases h.2 with ⟨hv, _⟩ | ⟨g', cap', cur, hv, hb, hh, h1, h2, h3, h4⟩
  · cases hv
  · injection hv with e1 e2 e3
    injection e1 with e1
    injection e1 with e1
    subst e1 e2 e3
    refine ⟨g, cap, cur, rfl, hb, hh, by simp at h1; omega, h2, h3, ?_⟩
    have := congrArg (List.take (l.length * K.s)) h4
    rw [List.take_take, cs_append, show l.length * K.s = (cs K l).length from (cs_length l).symm, List.take_left] at this
    rw [← this, cs_length]
    congr 1
    rw [List.length_append, Nat.add_mul]; omega
/-- An element of such a row: its cells, none frozen. -/
theorem Own.cells {w : World} {B g n cap : Nat} {l : List α} (h : Own K w B (.slice (some ⟨g, 0, none⟩) n cap) l) (i : Nat) (hi : i < l.length) :
    ∀ j u, (K.enc l[i])[j]? = some u → w.cell? ⟨g, i * K.s + j, none⟩ = some u ∧ w.frozen? ⟨g, i * K.s + j, none⟩ = false := by
  have hn : n = l.length := by
    rcases h.2 with ⟨hv, _⟩ | ⟨_, _, _, hv, _⟩
    · cases hv
    · injection hv
  subst hn
  intro j u hu
  have hj : j < K.s := by have := (List.getElem?_eq_some_iff.1 hu).1; rw [K.len] at this; exact this
  have hlt : i * K.s + j < l.length * K.s := by
    calc i * K.s + j < i * K.s + K.s := by omega
      _ = (i + 1) * K.s := by rw [Nat.add_mul, Nat.one_mul]
      _ ≤ l.length * K.s := Nat.mul_le_mul_right _ hi
  refine ⟨?_, World.ownsRow.frozenAt h _⟩
  rw [World.ownsRow.cellAt h _ hlt, cs_at l i j _ (List.getElem?_eq_getElem hi) hj, hu]

theorem grown_step {w w1 w2 : World} {r r1 : Option Nat} (h : w.grownBy w1 r) (k : w1.grownBy w2 r1) (hr : r1 = r ∨ ∀ b, r1 = some b → w.heap.size ≤ b) : w.grownBy w2 r := by
  refine ⟨k.os.trans h.os, k.tape.trans h.tape, k.output.trans h.output, Nat.le_trans h.size k.size, fun i hi hne => ?_⟩
  have h1 := h.size
  rw [k.block i (by omega) ?_, h.block i hi hne]
  rcases hr with rfl | hr
  · exact hne
  · rintro e
    have := hr i e.symm
    omega
theorem grown_of_bl {w w' : World} (h : Below w.heap.size w w') (r : Option Nat) : w.grownBy w' r := ⟨h.os, h.tape, h.output, h.size, fun k hk _ => h.block k hk⟩
theorem bl_of_grown {w w1 w2 : World} {r : Option Nat} (h : Below w.heap.size w w1) (k : w1.grownBy w2 r) (hr : ∀ b, r = some b → w.heap.size ≤ b) : Below w.heap.size w w2 := h.grown k h.size hr

variable {P : Program} {ops : Array Oper} {rest : List Oper} {o : Oper} {a : Act} {Q : Exit → Act → World → Prop}
/-- append(v, x...). -/
theorem app_all {w : World} {i : TypeInfo} {z : Value} (hgd : o.guard = none) (s x : Operand) (t : TypeId)
    (ho : o.op = .call { callee := .builtin .append, args := #[s, x], argTypes := #[t, t] })
    (ht : P.underlying t = some (.slice K.e)) (hi : P.info? K.e = some i) (hz : i.zero = some z) (hsize : i.size = K.s) (hby : i.bytes = K.b) (hzs : z.cells.size = K.s)
    (B : Nat) (v : Value) (xs : List α) (hs : a.eval s = v) (hown : Own K w B v xs) (A : Option Addr) (n c : Nat) (ys : List α) (hx : a.eval x = .slice A n c) (hn : n = ys.length) (hr : Rd K w A ys)
    (hb : (xs.length + ys.length) * K.b ≤ 140737488355328) (hbase : B ≤ w.heap.size)
    (h : ∀ v' w', Own K w' B v' (xs ++ ys) → w.grownBy w' v.ownBlock → (v'.ownBlock = v.ownBlock ∨ v'.ownBlock = some w.heap.size) → wpList P ops Q rest (a.put o.dst v') w') : wpList P ops Q (o :: rest) a w := by
  subst hn
  have hlen : xs.length + ys.length ≤ 140737488355328 := Nat.le_trans (Nat.le_mul_of_pos_right _ K.hb) hb
  refine wpList_append_any w hgd s x t ho B K.e i z K.s K.b ht hi hz hsize hby hzs K.hs v xs.length (cs K xs) hs hown w.heap.size A ys.length c (cs K ys) hx hr.2 (cs_one ys) (by simp only [maxLen]; omega) hb hbase fun v' w' h1 h2 h3 => h v' w' ?_ h2 h3
  show w'.ownsRow B K.e K.s v' (xs ++ ys).length (cs K (xs ++ ys))
  rw [List.length_append, cs_append]; exact h1
theorem rd_new {W : World} {H : Nat} (x : α) (hH : W.heap.size = H) (hb : K.b ≤ 140737488355328) : Rd K (W.alloc (.cells (K.enc x).toArray K.e)) (some ⟨H, 0, none⟩) [x] := by
  subst hH
  refine ⟨by simpa using hb, by simpa using cs_length [x], fun _ => ⟨_, rfl, by simp, fun k u hu => ?_⟩⟩
  exact World.news_of_block (cs := (K.enc x).toArray) (t := K.e) (fr := (0, 0)) (heap_alloc_new W _) k u (by simpa [cs] using hu)
/-- append(v, e): the element lies in a block of its own. -/
theorem app_one {W : World} {i : TypeInfo} {z : Value} (hgd : o.guard = none) (s x : Operand) (t : TypeId)
    (ho : o.op = .call { callee := .builtin .append, args := #[s, x], argTypes := #[t, t] })
    (ht : P.underlying t = some (.slice K.e)) (hi : P.info? K.e = some i) (hz : i.zero = some z) (hsize : i.size = K.s) (hby : i.bytes = K.b) (hzs : z.cells.size = K.s)
    (B : Nat) (v : Value) (xs : List α) (e : α) (hs : a.eval s = v) (hown : Own K W B v xs) (hx : a.eval x = .slice (some ⟨W.heap.size, 0, none⟩) 1 1)
    (hb : (xs.length + 1) * K.b ≤ 140737488355328) (hbase : B ≤ W.heap.size)
    (h : ∀ v' w', Own K w' B v' (xs ++ [e]) → W.grownBy w' v.ownBlock → (v'.ownBlock = v.ownBlock ∨ ∃ b, v'.ownBlock = some b ∧ W.heap.size ≤ b) → wpList P ops Q rest (a.put o.dst v') w') :
    wpList P ops Q (o :: rest) a (W.alloc (.cells (K.enc e).toArray K.e)) := by
  have hb1 : K.b ≤ 140737488355328 := Nat.le_trans (Nat.le_mul_of_pos_left _ (by omega)) hb
  refine app_all hgd s x t ho ht hi hz hsize hby hzs B v xs hs (hown.alloc _) _ 1 1 [e] hx rfl (rd_new e rfl hb1) (by simpa using hb) (by simp; omega) fun v' w' h1 h2 h3 => h v' w' h1 ?_ ?_
  · exact grown_step (grown_of_bl ((Below.refl _ _).alloc (Nat.le_refl _) _) v.ownBlock) h2 (.inl rfl)
  · rcases h3 with h3 | h3
    · exact .inl h3
    · exact .inr ⟨_, h3, by simp⟩
/-- append(v, e) at a step of a region that draws its order. -/
theorem step_one {w : World} {E : Prop} {K' : Act → World → Prop} {i : TypeInfo} {z : Value} (hgd : o.guard = none) (s x : Operand) (t : TypeId)
    (ho : o.op = .call { callee := .builtin .append, args := #[s, x], argTypes := #[t, t] })
    (ht : P.underlying t = some (.slice K.e)) (hi : P.info? K.e = some i) (hz : i.zero = some z) (hsize : i.size = K.s) (hby : i.bytes = K.b) (hzs : z.cells.size = K.s)
    (B : Nat) (v : Value) (xs : List α) (e : α) (hs : a.eval s = v) (hown : Own K w B v xs) (A : Option Addr) (hx : a.eval x = .slice A 1 1) (hr : Rd K w A [e])
    (hb : (xs.length + 1) * K.b ≤ 140737488355328) (hbase : B ≤ w.heap.size)
    (h : ∀ v' w', Own K w' B v' (xs ++ [e]) → w.grownBy w' v.ownBlock → (v'.ownBlock = v.ownBlock ∨ v'.ownBlock = some w.heap.size) → K' (a.put o.dst v') w') :
    if Region.wanted o (yielded ops a.tmps) = true then Oper.wp P o a w K' Q else E := by
  have hlen : xs.length + 1 ≤ 140737488355328 := Nat.le_trans (Nat.le_mul_of_pos_right _ K.hb) hb
  refine step_append_any w hgd s x t ho B K.e i z K.s K.b ht hi hz hsize hby hzs K.hs v xs.length (cs K xs) hs hown w.heap.size A 1 1 (cs K [e]) hx hr.2 (cs_one [e]) (by simp only [maxLen]; omega) hb hbase fun v' w' h1 h2 h3 => h v' w' ?_ h2 h3
  show w'.ownsRow B K.e K.s v' (xs ++ [e]).length (cs K (xs ++ [e]))
  rw [List.length_append, cs_append]; exact h1
theorem Own.lit0 (w : World) (B : Nat) (hB : B ≤ w.heap.size) : Own K (w.alloc (.cells #[] K.e)) B (.slice (some ⟨w.heap.size, 0, none⟩) 0 0) [] := by
  have := World.ownsRow_lit (base := B) (e := K.e) (size := K.s) w #[] 0 hB (by simp [maxLen]) (by simp)
  simpa [Own, cs] using this
/-- append([]T{}, x...): a twin of x in memory of its own. -/
theorem app_twin {W : World} {i : TypeInfo} {z : Value} (hgd : o.guard = none) (s x : Operand) (t : TypeId)
    (ho : o.op = .call { callee := .builtin .append, args := #[s, x], argTypes := #[t, t] })
    (ht : P.underlying t = some (.slice K.e)) (hi : P.info? K.e = some i) (hz : i.zero = some z) (hsize : i.size = K.s) (hby : i.bytes = K.b) (hzs : z.cells.size = K.s)
    (hs : a.eval s = .slice (some ⟨W.heap.size, 0, none⟩) 0 0) (A : Option Addr) (n c : Nat) (ys : List α) (hx : a.eval x = .slice A n c) (hn : n = ys.length) (hr : Rd K W A ys)
    (hb : ys.length * K.b ≤ 140737488355328)
    (h : ∀ v' w', Own K w' W.heap.size v' ys → Below W.heap.size W w' → wpList P ops Q rest (a.put o.dst v') w') :
    wpList P ops Q (o :: rest) a (W.alloc (.cells #[] K.e)) :=
  app_all hgd s x t ho ht hi hz hsize hby hzs W.heap.size _ [] hs (Own.lit0 W W.heap.size (Nat.le_refl _)) A n c ys hx hn (hr.alloc _) (by simpa using hb) (by simp) fun v' w' h1 h2 _ => h v' w' h1
    (bl_of_grown ((Below.refl _ _).alloc (Nat.le_refl _) _) h2 (fun b hb => by cases hb; exact Nat.le_refl _))
end
end Go.Proofs.Ytpklkjekkbpeoaa.GR
