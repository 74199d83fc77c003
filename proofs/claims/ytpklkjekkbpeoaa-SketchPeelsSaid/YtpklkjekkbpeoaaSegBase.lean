/- DERIVED. Words for the lists of entries of chapter 14: what a slice of entries reads as, and rows of the call's own. -/
import Derived.Test.YtpklkjekkbpeoaaProg
import Derived.Below
import Derived.Deep.Draws
import Derived.Deep.AppendLies
import Derived.Maps.AppendAt
import Derived.OwnWalk
import Derived.Laws.OwnMore
import Derived.Laws.Rows
import Derived.WalkKit
import Derived.KernelRfl
import Derived.Deep.QuietTactic
import Derived.BigQuiet
import Derived.Deep.RegionHeld3
import Derived.WalkLawsBesides
import Derived.WalkSpells
import Derived.Lib.Hide
import Derived.Outline
import Derived.RegionCalls
import Derived.Lib.Bytealg
namespace Go.Proofs.Ytpklkjekkbpeoaa
open Go.RowKit
set_option linter.unusedVariables false
set_option linter.unusedSimpArgs false

/-- An entry: a key and a sum. -/
structure Ent where
  key : ByteArray
  sum : ByteArray
deriving DecidableEq

def entC (e : Ent) : List Value := [.string e.key, .string e.sum]
def ents (l : List Ent) : List Value := l.flatMap entC
theorem ents_nil : ents [] = [] := rfl
theorem ents_cons (e : Ent) (l : List Ent) : ents (e :: l) = .string e.key :: .string e.sum :: ents l := rfl
theorem ents_append (l m : List Ent) : ents (l ++ m) = ents l ++ ents m := by simp [ents]
theorem ents_length (l : List Ent) : (ents l).length = l.length * 2 := by
  induction l with
  | nil => rfl
  | cons e l ih => rw [ents_cons]; simp [ih]; omega
theorem ents_even (l : List Ent) (i : Nat) (e : Ent) (h : l[i]? = some e) : (ents l)[i * 2]? = some (.string e.key) ∧ (ents l)[i * 2 + 1]? = some (.string e.sum) := by
  induction l generalizing i with
  | nil => simp at h
  | cons x l ih =>
    cases i with
    | zero => simp at h; subst h; simp [ents_cons]
    | succ i =>
      have := ih i (by simpa using h)
      rw [show (i + 1) * 2 = i * 2 + 2 by omega, show i * 2 + 2 + 1 = i * 2 + 1 + 2 by omega, ents_cons]
      simpa using this

/-- An address and its next field. -/
def nxt (p : Addr) : Addr := ⟨p.block, p.off + 1, none⟩

/-- A slice at address A reads as the entries l. -/
def Rd (w : World) (A : Option Addr) (l : List Ent) : Prop :=
  l.length ≤ 4398046511104 ∧ (0 < l.length → ∃ ad, A = some ad ∧ ∀ i e, l[i]? = some e → w.cell? (ad.add (i * 2)) = some (.string e.key) ∧ w.cell? ⟨(ad.add (i * 2)).block, (ad.add (i * 2)).off + 1, none⟩ = some (.string e.sum))

theorem Rd.keep {w w' : World} {A : Option Addr} {l : List Ent} (h : Rd w A l) (hk : ∀ p v, w.cell? p = some v → w'.cell? p = some v) : Rd w' A l :=
  ⟨h.1, fun hn => by
    obtain ⟨ad, e, hc⟩ := h.2 hn
    exact ⟨ad, e, fun i x hx => ⟨hk _ _ (hc i x hx).1, hk _ _ (hc i x hx).2⟩⟩⟩
theorem Rd.drewN {w : World} {A : Option Addr} {l : List Ent} (h : Rd w A l) (n : Nat) : Rd (w.drewN n) A l := h
theorem Rd.drew {w : World} {A : Option Addr} {l : List Ent} (h : Rd w A l) : Rd w.drew A l := h
theorem Rd.below {w w' : World} {A : Option Addr} {l : List Ent} (h : Rd w A l) (hb : Below w.heap.size w w') : Rd w' A l :=
  h.keep fun p _ hp => (hb.cell (World.block_lt_of_cell? w p hp)).trans hp
theorem Rd.alloc {w : World} {A : Option Addr} {l : List Ent} (h : Rd w A l) (o : Obj) : Rd (w.alloc o) A l :=
  h.below ((Below.refl _ _).alloc (Nat.le_refl _) o)
theorem Rd.nil (w : World) (A : Option Addr) : Rd w A [] := ⟨by simp, fun h => absurd h (by simp)⟩
theorem Rd.at_ {w : World} {A : Option Addr} {l : List Ent} (h : Rd w A l) (i : Nat) (hi : i < l.length) :
    ∃ ad, A = some ad ∧ w.cell? (ad.add (i * 2)) = some (.string l[i].key) ∧ w.cell? ⟨(ad.add (i * 2)).block, (ad.add (i * 2)).off + 1, none⟩ = some (.string l[i].sum) := by
  obtain ⟨ad, e, hc⟩ := h.2 (by omega)
  exact ⟨ad, e, hc i _ (List.getElem?_eq_getElem hi)⟩
/-- The world is the old one, some orders having been drawn. -/
def Drawn (w w' : World) : Prop := ∃ n, w' = w.drewN n
theorem Drawn.refl (w : World) : Drawn w w := ⟨0, rfl⟩
theorem Drawn.drewN {w w' : World} (h : Drawn w w') (n : Nat) : Drawn w (w'.drewN n) := by
  obtain ⟨m, rfl⟩ := h
  exact ⟨m + n, World.drewN_drewN ..⟩
theorem Drawn.drew {w w' : World} (h : Drawn w w') : Drawn w w'.drew := h.drewN 1
theorem Drawn.trans {a b c : World} (h : Drawn a b) (k : Drawn b c) : Drawn a c := by
  obtain ⟨m, rfl⟩ := k
  exact h.drewN m
theorem Drawn.rd {w w' : World} (h : Drawn w w') {A : Option Addr} {l : List Ent} (hr : Rd w A l) : Rd w' A l := by
  obtain ⟨m, rfl⟩ := h
  exact hr.drewN m
theorem Drawn.below {w w' : World} (h : Drawn w w') (B : Nat) : Below B w w' := by
  obtain ⟨m, rfl⟩ := h
  exact ⟨rfl, rfl, rfl, Nat.le_refl _, fun _ _ => rfl⟩
theorem Drawn.size {w w' : World} (h : Drawn w w') : w'.heap.size = w.heap.size := by
  obtain ⟨m, rfl⟩ := h
  rfl
/-- A quiet call in a region: from a contract that ends 'Drawn w w''. -/
theorem quiet_drawn {P : Program} {f : FuncId} {args : Array Value} {w : World} {n : Nat} {v : Value}
    (h : Calls P f args (w.drewN n) fun e w' => e = .returned v ∧ Drawn (w.drewN n) w') : Calls P f args (w.drewN n) fun e w'' => e = .returned v ∧ ∃ m, w'' = w.drewN m :=
  h.mono fun _ _ ⟨he, m, hm⟩ => ⟨he, n + m, by rw [hm, World.drewN_drewN]⟩
/-- A quiet call in a region: from a contract that ends 'w = w''. -/
theorem quiet_same {P : Program} {f : FuncId} {args : Array Value} {w : World} {n : Nat} {v : Value}
    (h : Calls P f args (w.drewN n) fun e w' => e = .returned v ∧ w.drewN n = w') : Calls P f args (w.drewN n) fun e w'' => e = .returned v ∧ ∃ m, w'' = w.drewN m :=
  h.mono fun _ _ ⟨he, hm⟩ => ⟨he, n, hm.symm⟩
theorem bl_drew {w w1 : World} (h : Below w.heap.size w w1) : Below w.heap.size w w1.drew := ⟨h.os, h.tape, h.output, h.size, h.block⟩
theorem bl_drewN {w w1 : World} (h : Below w.heap.size w w1) (n : Nat) : Below w.heap.size w (w1.drewN n) := ⟨h.os, h.tape, h.output, h.size, h.block⟩
theorem bl_alloc {w w1 : World} (h : Below w.heap.size w w1) (o : Obj) : Below w.heap.size w (w1.alloc o) := h.alloc h.size o
theorem bl_then {w w1 w2 : World} (h : Below w.heap.size w w1) (k : Below w1.heap.size w1 w2) : Below w.heap.size w w2 := h.trans (k.mono h.size)
theorem bl_drawn {w w1 w2 : World} (h : Below w.heap.size w w1) (k : Drawn w1 w2) : Below w.heap.size w w2 := bl_then h (k.below _)
theorem ret_bool {a b : Bool} (h : a = b) : Ending.returned (.bool a) = .returned (.bool b) := by rw [h]
theorem ret_int {k : IntKind} {a b : Int} (h : a = b) : Ending.returned (.int k a) = .returned (.int k b) := by rw [h]
theorem ret_str {a b : ByteArray} (h : a = b) : Ending.returned (.string a) = .returned (.string b) := by rw [h]
/-- The first entry, in the walk's own spelling. -/
theorem Rd.head {w : World} {A : Option Addr} {l : List Ent} (h : Rd w A l) (hi : 0 < l.length) :
    ∃ ad, A = some ad ∧ w.cell? ad = some (.string l[0].key) ∧ w.cell? ⟨ad.block, ad.off + 1, none⟩ = some (.string l[0].sum) := by
  obtain ⟨ad, e, c0, c1⟩ := h.at_ 0 hi
  rw [show 0 * 2 = 0 from rfl, Addr.add_zero'] at c0 c1
  exact ⟨ad, e, c0, c1⟩
theorem Rd.max {w : World} {A : Option Addr} {l : List Ent} (h : Rd w A l) : l.length ≤ 4398046511104 := h.1
end Go.Proofs.Ytpklkjekkbpeoaa
