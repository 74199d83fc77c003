/- DERIVED. Words for the lists of entries of chapter 14: what a slice of entries reads as, and rows of the call's own.  Rows of the call's own: apart from one another, left as they were by stores elsewhere. A state's twin. -/
import Derived.Test.YtljfigikkajlnaaVGRow
import Derived.Test.YtljfigikkajlnaaVWWords
import Derived.Test.YtljfigikkajlnaaProg
import Derived.Below
import Derived.Deep.Draws
import Derived.Deep.AppendLies
import Derived.Maps.AppendAt
import Derived.OwnWalk
import Derived.Laws.OwnMore
import Derived.Laws.Rows
import Derived.WalkKit
import Derived.KernelRfl
import Derived.Deep.QuietTactic
import Derived.BigQuiet
import Derived.Deep.RegionHeld3
import Derived.WalkLawsBesides
import Derived.WalkSpells
import Derived.Lib.Hide
import Derived.Outline
import Derived.RegionCalls
import Derived.Lib.Bytealg
import Derived.Laws.StructEq
import Derived.WalkMore
import Derived.Lib.Strings
import Derived.Laws.Runes
namespace Go.Proofs.Ytljfigikkajlnaa
open Go.RowKit
set_option linter.unusedVariables false
set_option linter.unusedSimpArgs false
/-- An entry: a key and a sum. -/
structure Ent where
  key : ByteArray
  sum : ByteArray
deriving DecidableEq
def entC (e : Ent) : List Value := [.string e.key, .string e.sum]
def ents (l : List Ent) : List Value := l.flatMap entC
theorem ents_cons (e : Ent) (l : List Ent) : ents (e :: l) = .string e.key :: .string e.sum :: ents l := rfl
theorem ents_append (l m : List Ent) : ents (l ++ m) = ents l ++ ents m := by simp [ents]
theorem ents_length (l : List Ent) : (ents l).length = l.length * 2 := by
  induction l with
  | nil => rfl
  | cons e l ih => rw [ents_cons]; simp [ih]; omega
theorem ents_even (l : List Ent) (i : Nat) (e : Ent) (h : l[i]? = some e) : (ents l)[i * 2]? = some (.string e.key) ∧ (ents l)[i * 2 + 1]? = some (.string e.sum) := by
  induction l generalizing i with
  | nil => simp at h
  | cons x l ih =>
    cases i with
    | zero => simp at h; subst h; simp [ents_cons]
    | succ i =>
      have := ih i (by simpa using h)
      rw [show (i + 1) * 2 = i * 2 + 2 by omega, show i * 2 + 2 + 1 = i * 2 + 1 + 2 by omega, ents_cons]
      simpa using this
/-- A slice at address A reads as the entries l. -/
def Rd (w : World) (A : Option Addr) (l : List Ent) : Prop :=
  l.length ≤ 4398046511104 ∧ (0 < l.length → ∃ ad, A = some ad ∧ ∀ i e, l[i]? = some e → w.cell? (ad.add (i * 2)) = some (.string e.key) ∧ w.cell? ⟨(ad.add (i * 2)).block, (ad.add (i * 2)).off + 1, none⟩ = some (.string e.sum))
theorem Rd.keep {w w' : World} {A : Option Addr} {l : List Ent} (h : Rd w A l) (hk : ∀ p v, w.cell? p = some v → w'.cell? p = some v) : Rd w' A l :=
  ⟨h.1, fun hn => by
    obtain ⟨ad, e, hc⟩ := h.2 hn
    exact ⟨ad, e, fun i x hx => ⟨hk _ _ (hc i x hx).1, hk _ _ (hc i x hx).2⟩⟩⟩
theorem Rd.drewN {w : World} {A : Option Addr} {l : List Ent} (h : Rd w A l) (n : Nat) : Rd (w.drewN n) A l := h
theorem Rd.drew {w : World} {A : Option Addr} {l : List Ent} (h : Rd w A l) : Rd w.drew A l := h
theorem Rd.below {w w' : World} {A : Option Addr} {l : List Ent} (h : Rd w A l) (hb : Below w.heap.size w w') : Rd w' A l :=
  h.keep fun p _ hp => (hb.cell (World.block_lt_of_cell? w p hp)).trans hp
theorem Rd.alloc {w : World} {A : Option Addr} {l : List Ent} (h : Rd w A l) (o : Obj) : Rd (w.alloc o) A l :=
  h.below ((Below.refl _ _).alloc (Nat.le_refl _) o)
theorem Rd.nil (w : World) (A : Option Addr) : Rd w A [] := ⟨by simp, fun h => absurd h (by simp)⟩
theorem Rd.at_ {w : World} {A : Option Addr} {l : List Ent} (h : Rd w A l) (i : Nat) (hi : i < l.length) :
    ∃ ad, A = some ad ∧ w.cell? (ad.add (i * 2)) = some (.string l[i].key) ∧ w.cell? ⟨(ad.add (i * 2)).block, (ad.add (i * 2)).off + 1, none⟩ = some (.string l[i].sum) := by
  obtain ⟨ad, e, hc⟩ := h.2 (by omega)
  exact ⟨ad, e, hc i _ (List.getElem?_eq_getElem hi)⟩
/-- The world is the old one, some orders having been drawn. -/
def Drawn (w w' : World) : Prop := ∃ n, w' = w.drewN n
theorem Drawn.refl (w : World) : Drawn w w := ⟨0, rfl⟩
theorem Drawn.drewN {w w' : World} (h : Drawn w w') (n : Nat) : Drawn w (w'.drewN n) := by
  obtain ⟨m, rfl⟩ := h
  exact ⟨m + n, World.drewN_drewN ..⟩
theorem Drawn.drew {w w' : World} (h : Drawn w w') : Drawn w w'.drew := h.drewN 1
theorem Drawn.trans {a b c : World} (h : Drawn a b) (k : Drawn b c) : Drawn a c := by
  obtain ⟨m, rfl⟩ := k
  exact h.drewN m
theorem Drawn.rd {w w' : World} (h : Drawn w w') {A : Option Addr} {l : List Ent} (hr : Rd w A l) : Rd w' A l := by
  obtain ⟨m, rfl⟩ := h
  exact hr.drewN m
theorem Drawn.below {w w' : World} (h : Drawn w w') (B : Nat) : Below B w w' := by
  obtain ⟨m, rfl⟩ := h
  exact ⟨rfl, rfl, rfl, Nat.le_refl _, fun _ _ => rfl⟩
theorem Drawn.size {w w' : World} (h : Drawn w w') : w'.heap.size = w.heap.size := by
  obtain ⟨m, rfl⟩ := h
  rfl
theorem bl_drew {w w1 : World} (h : Below w.heap.size w w1) : Below w.heap.size w w1.drew := ⟨h.os, h.tape, h.output, h.size, h.block⟩
theorem bl_drewN {w w1 : World} (h : Below w.heap.size w w1) (n : Nat) : Below w.heap.size w (w1.drewN n) := ⟨h.os, h.tape, h.output, h.size, h.block⟩
theorem bl_alloc {w w1 : World} (h : Below w.heap.size w w1) (o : Obj) : Below w.heap.size w (w1.alloc o) := h.alloc h.size o
theorem bl_then {w w1 w2 : World} (h : Below w.heap.size w w1) (k : Below w1.heap.size w1 w2) : Below w.heap.size w w2 := h.trans (k.mono h.size)
theorem ret_bool {a b : Bool} (h : a = b) : Ending.returned (.bool a) = .returned (.bool b) := by rw [h]
theorem ret_int {k : IntKind} {a b : Int} (h : a = b) : Ending.returned (.int k a) = .returned (.int k b) := by rw [h]
theorem Rd.max {w : World} {A : Option Addr} {l : List Ent} (h : Rd w A l) : l.length ≤ 4398046511104 := h.1
end Go.Proofs.Ytljfigikkajlnaa
namespace Go.Proofs.YtljfigikkajlnaaW.PrintWords
set_option linter.unusedVariables false
set_option linter.unusedSimpArgs false
open Go.RowKit
section
variable {P : Program} {d : Nat} {xs ys : Array Value} {f : Field} {fs : List Field} {a b : Value} {r s : Bool} {w : World}
/-- The last field that counts. -/
theorem eqf_last (hn : (f.name == "_") = false) (ha : (part f.type xs f.offset).run P w = .ok a w) (hb : (part f.type ys f.offset).run P w = .ok b w) (he : (Op.equalIn d f.type a b).run P w = .ok r w) : (Op.eqFields d xs ys [f]).run P w = .ok r w := by
  have hn' : f.name ≠ "_" := by simpa using hn
  simp only [Op.eqFields, if_pos hn', Sem.run_bind, ha, hb, he, Result.andThen_ok]
  cases r <;> simp
theorem eqf_cons (hn : (f.name == "_") = false) (ha : (part f.type xs f.offset).run P w = .ok a w) (hb : (part f.type ys f.offset).run P w = .ok b w) (he : (Op.equalIn d f.type a b).run P w = .ok r w) (hr : (Op.eqFields d xs ys fs).run P w = .ok s w) : (Op.eqFields d xs ys (f :: fs)).run P w = .ok (r && s) w := by
  have hn' : f.name ≠ "_" := by simpa using hn
  rw [Op.eqFields]
  simp only [if_pos hn', Sem.run_bind, ha, hb, he, Result.andThen_ok]
  cases r
  · simp
  · simpa using hr
theorem eqA_of {t : TypeId} {fs : Array Field} (hu : P.underlying t = some (.struct fs)) (hp : P.stoodInHeld t = false) (h : (Op.eqFields d xs ys fs.toList).run P w = .ok r w) : (Op.equalIn (d + 1) t (.agg xs) (.agg ys)).run P w = .ok r w := by
  have hf : P.fieldsOf t = fs := by simp [Program.fieldsOf, hu]
  rw [run_equalIn_struct (P := P) w d t xs ys (by rw [hf]; exact hu) hp, hf]
  exact h
end
end Go.Proofs.YtljfigikkajlnaaW.PrintWords
namespace Go.Proofs.Ytljfigikkajlnaa
open Go.RowKit
set_option linter.unusedVariables false
set_option linter.unusedSimpArgs false
theorem own_slice {α : Type} {K : GR.Kind α} {w : World} {B : Nat} {v : Value} {l : List α} (h : GR.Own K w B v l) (hb : l.length * K.b ≤ 140737488355328) : ∃ A n c, v = .slice A n c := by
  obtain ⟨A, c, e, _⟩ := h.rd' hb
  exact ⟨A, _, c, e⟩
/-- A store into another block leaves an own row as it was. -/
theorem own_far {α : Type} {K : GR.Kind α} {w : World} {g B : Nat} {t : TypeId} {cs : Array Value} {v : Value} {l : List α} (h : GR.Own K w B v l) (bg : GR.Blk w g t cs) (u : Value) (hne : K.e ≠ t) : GR.Own K (w.setCell ⟨g, 0, none⟩ u) B v l :=
  h.grown (row := some g) ⟨rfl, rfl, rfl, by simp [World.setCell], fun k _ hk => Below.heap_setCell _ _ _ _ (by intro e; subst e; exact hk rfl)⟩ (.inr (GR.own_blk_ne h bg hne))
theorem own_apart {α β : Type} {K : GR.Kind α} {J : GR.Kind β} {w : World} {B B' : Nat} {u v : Value} {l : List α} {m : List β} (h : GR.Own K w B u l) (k : GR.Own J w B' v m) (hne : K.e ≠ J.e) : u.ownBlock = none ∨ u.ownBlock ≠ v.ownBlock := by
  rcases h.2 with ⟨rfl, _⟩ | ⟨g, cap, cur, rfl, _, hh, _⟩
  · exact .inl rfl
  · refine .inr fun e => ?_
    rcases k.2 with ⟨rfl, _⟩ | ⟨g', cap', cur', rfl, _, hh', _⟩
    · simp [Value.ownBlock] at e
    · have : g = g' := by simpa [Value.ownBlock] using e
      subst this
      exact GR.Blk.ne_ (t := K.e) (t' := J.e) hh hh' hne rfl
end Go.Proofs.Ytljfigikkajlnaa
namespace Go.Proofs.Ytljfigikkajlnaa
open Go.RowKit
set_option linter.unusedVariables false
set_option linter.unusedSimpArgs false
namespace GR
variable {α : Type} {K : Kind α}
variable {P : Program} {ops : Array Oper} {o : Oper} {a : Act} {Q : Exit → Act → World → Prop}
/-- append(v, x...) at a step of a region that draws its order. -/
theorem step_all {w : World} {E : Prop} {K' : Act → World → Prop} {i : TypeInfo} {z : Value} (hgd : o.guard = none) (s x : Operand) (t : TypeId)
    (ho : o.op = .call { callee := .builtin .append, args := #[s, x], argTypes := #[t, t] })
    (ht : P.underlying t = some (.slice K.e)) (hi : P.info? K.e = some i) (hz : i.zero = some z) (hsize : i.size = K.s) (hby : i.bytes = K.b) (hzs : z.cells.size = K.s)
    (B : Nat) (v : Value) (xs : List α) (hs : a.eval s = v) (hown : Own K w B v xs) (A : Option Addr) (n c : Nat) (ys : List α) (hx : a.eval x = .slice A n c) (hn : n = ys.length) (hr : Rd K w A ys)
    (hb : (xs.length + ys.length) * K.b ≤ 140737488355328) (hbase : B ≤ w.heap.size)
    (h : ∀ v' w', Own K w' B v' (xs ++ ys) → w.grownBy w' v.ownBlock → (v'.ownBlock = v.ownBlock ∨ v'.ownBlock = some w.heap.size) → K' (a.put o.dst v') w') :
    if Region.wanted o (yielded ops a.tmps) = true then Oper.wp P o a w K' Q else E := by
  subst hn
  have hlen : xs.length + ys.length ≤ 140737488355328 := Nat.le_trans (Nat.le_mul_of_pos_right _ K.hb) hb
  refine step_append_any w hgd s x t ho B K.e i z K.s K.b ht hi hz hsize hby hzs K.hs v xs.length (cs K xs) hs hown w.heap.size A ys.length c (cs K ys) hx hr.2 (cs_one ys) (by simp only [maxLen]; omega) hb hbase fun v' w' h1 h2 h3 => h v' w' ?_ h2 h3
  show w'.ownsRow B K.e K.s v' (xs ++ ys).length (cs K (xs ++ ys))
  rw [List.length_append, cs_append]; exact h1
end GR
end Go.Proofs.Ytljfigikkajlnaa
