/- DERIVED. The bytes of a text in memory of the call's own (the row bears the conversion's mark), and what is put behind them. (The lemmas 'run_storeCells_atM', 'run_append_roomM', 'append_ownM' are the library's own on rows with a frozen head, turned to this claim.) Arrays of words and of bytes in memory of the call's own. A Hash in memory; what it holds of the bytes that were written. What a block makes of a state: the program's step. -/
import Derived.Test.YtljfigikkajlnaaVm1
import Derived.Test.YtljfigikkajlnaaVm3
import Derived.Laws.IdiomStrings
import Derived.Laws.Rows
import Derived.Laws.Tables
import Derived.Deep.WholeRow
import Derived.Deep.MidRow
import Derived.Great.BuildSlice
import Derived.Deep.LoopGhost
import Derived.Deep.Cut
import Derived.Deep.CutRange
import Derived.BigRegion
namespace Go.Proofs.Ytljfigikkajlnaa
open Go.RowKit
set_option linter.unusedVariables false
set_option linter.unusedSimpArgs false
def bytesV (l : List UInt8) : List Value := l.map fun x => .int .u8 (bv x)
theorem bytesV_len (l : List UInt8) : (bytesV l).length = l.length := by simp [bytesV]
theorem bytesV_one (l : List UInt8) : ∀ v ∈ bytesV l, v.oneCell' = true := by
  intro v hv
  simp only [bytesV, List.mem_map] at hv
  obtain ⟨_, _, rfl⟩ := hv
  rfl
theorem bytesV_app (l m : List UInt8) : bytesV (l ++ m) = bytesV l ++ bytesV m := by simp [bytesV]
theorem run_storeCells_atM (P : Program) (g o : Nat) (t : TypeId) (fz : Nat × Nat) : ∀ (vs : List Value) (i : Nat) (cur : Array Value) (w : World), w.heap[g]? = some (.cells cur t fz) → (fz.2 = 0 ∨ cur.size ≤ fz.1) → o + i + vs.length ≤ cur.size → (∀ v ∈ vs, v.oneCell' = true) →
    (storeCells ⟨g, o, none⟩ vs i).run P w = .ok () (w.setRow g (cur.toList.take (o + i) ++ vs ++ cur.toList.drop (o + i + vs.length)).toArray)
  | [], i, cur, w, hg, _, _, _ => by
    simp only [storeCells, List.append_nil, List.length_nil, Nat.add_zero, List.take_append_drop, Array.toArray_toList]
    rw [setRow_self w g cur t fz hg]
    rfl
  | v :: rest, i, cur, w, hg, hfz, hl, h1 => by
    have hi : o + i < cur.size := by simp at hl; omega
    have hadd : (⟨g, o, none⟩ : Addr).add i = ⟨g, o + i, none⟩ := by unfold Addr.add; split <;> simp_all
    have hcell : w.cell? ⟨g, o + i, none⟩ = some cur[o + i] := by simp [World.cell?, hg, hi]
    have hfro : w.frozen? ⟨g, o + i, none⟩ = false := by
      obtain ⟨lo, hi'⟩ := fz
      simp only [World.frozen?, hg, Bool.and_eq_false_iff, decide_eq_false_iff_not]
      simp only at hfz
      rcases hfz with h | h
      · right; omega
      · left; omega
    have hst : (store ((⟨g, o, none⟩ : Addr).add i) v).run P w = .ok () (w.setRow g (cur.setIfInBounds (o + i) v)) := by
      rw [hadd, run_store P w _ v _ (h1 v (by simp)), hcell]
      simp [hfro, setCell_eq_setRow w g (o + i) cur t fz v hg]
    have ih := run_storeCells_atM P g o t fz rest (i + 1) (cur.setIfInBounds (o + i) v) (w.setRow g (cur.setIfInBounds (o + i) v)) (setRow_heap w g cur _ t _ hg) (by simpa using hfz) (by simp at hl ⊢; omega) (fun x hx => h1 x (by simp [hx]))
    simp only [storeCells, Sem.run_bind, hst, Result.andThen_ok, ih, setRow_setRow]
    congr 3
    have e := list_seg_step cur.toList (o + i) v rest (by simp at hl ⊢; omega)
    simpa [Array.toList_setIfInBounds, Nat.add_assoc] using e
/-- Bytes in a row of the call's own, which may bear a conversion's mark. -/
def OwnM (w : World) (B : Nat) (v : Value) (l : List UInt8) : Prop :=
  ∃ g cap cur fz, v = .slice (some ⟨g, 0, none⟩) l.length cap ∧ B ≤ g ∧ w.heap[g]? = some (.cells cur 5 fz) ∧ (fz.2 = 0 ∨ cur.size ≤ fz.1) ∧ l.length ≤ cap ∧ cap ≤ maxLen ∧ cur.size = cap ∧ cur.toList.take l.length = bytesV l
theorem OwnM.lt {w : World} {B : Nat} {v : Value} {l : List UInt8} (h : OwnM w B v l) : ∀ k, v.ownBlock = some k → B ≤ k ∧ k < w.heap.size := by
  obtain ⟨g, cap, cur, fz, rfl, hb, hg, _⟩ := h
  intro k hk
  have : g = k := by simpa [Value.ownBlock] using hk
  subst this
  exact ⟨hb, (Array.getElem?_eq_some_iff.1 hg).1⟩
theorem OwnM.kept {w w' : World} {B : Nat} {v : Value} {l : List UInt8} {row : Option Nat} (h : OwnM w B v l) (hg : w.grownBy w' row) (hne : v.ownBlock ≠ row) : OwnM w' B v l := by
  obtain ⟨g, cap, cur, fz, rfl, hb, hh, rest⟩ := h
  have hlt := (Array.getElem?_eq_some_iff.1 hh).1
  exact ⟨g, cap, cur, fz, rfl, hb, (hg.block g hlt (fun e => hne (by simp [Value.ownBlock, e]))).trans hh, rest⟩
theorem OwnM.below {w w' : World} {B : Nat} {v : Value} {l : List UInt8} (h : OwnM w B v l) (hb : Below w.heap.size w w') : OwnM w' B v l := by
  obtain ⟨g, cap, cur, fz, rfl, hB, hh, rest⟩ := h
  exact ⟨g, cap, cur, fz, rfl, hB, (hb.block g (Array.getElem?_eq_some_iff.1 hh).1).trans hh, rest⟩
theorem OwnM.form {w : World} {B : Nat} {v : Value} {l : List UInt8} (h : OwnM w B v l) : ∃ g cap, v = .slice (some ⟨g, 0, none⟩) l.length cap ∧ B ≤ g ∧ l.length ≤ cap ∧ cap ≤ maxLen ∧ ∀ j, j < l.length → w.cell? ⟨g, j, none⟩ = some (.int .u8 (bv (l.getD j 0))) := by
  obtain ⟨g, cap, cur, fz, rfl, hB, hh, hf, h1, h2, h3, h4⟩ := h
  refine ⟨g, cap, rfl, hB, h1, h2, fun j hj => ?_⟩
  rw [cell_of_row w g j cur 5 fz hh]
  have h5 := congrArg (fun z => z[j]?) h4
  simp only [List.getElem?_take, hj, if_true, bytesV, List.getElem?_map, Array.getElem?_toList] at h5
  rw [h5, List.getElem?_eq_getElem hj, List.getD_eq_getElem?_getD, List.getElem?_eq_getElem hj]
  rfl
section
variable {P : Program} (w : World)
theorem run_append_roomM (t ty e : TypeId) (i : TypeInfo) (ht : P.underlying t = some (.slice e)) (hi : P.info? e = some i)
    (g sLen sCap : Nat) (cur : Array Value) (fz : Nat × Nat) (hg : w.heap[g]? = some (.cells cur e fz)) (hfz : fz.2 = 0 ∨ cur.size ≤ fz.1)
    (a : Addr) (m c : Nat) (news : List Value) (hl : news.length = m * i.size) (hnews : ∀ j u, news[j]? = some u → w.cell? (a.add j) = some u) (h1 : ∀ u ∈ news, u.oneCell' = true)
    (hroom : sLen + m ≤ sCap) (hfit : sLen * i.size + news.length ≤ cur.size) :
    (Builtin.append_ #[t, t] ty #[.slice (some ⟨g, 0, none⟩) sLen sCap, .slice (some a) m c]).run P w =
      .ok (.slice (some ⟨g, 0, none⟩) (sLen + m) sCap) (w.setRow g (cur.toList.take (sLen * i.size) ++ news ++ cur.toList.drop (sLen * i.size + news.length)).toArray) := by
  have hf := run_firstCells_some (P := P) w i.size m a m c news hl hnews
  have hst := run_storeCells_atM P g (sLen * i.size) e fz news 0 cur w hg hfz (by simpa using hfit) h1
  simp only [Nat.add_zero] at hst
  simp [Builtin.append_, run_underlying ht, sizeOf, typeInfo, hi, Builtin.lenOf, hroom, hf, Addr.add_lit, hst]
end
section
variable {ops : Array Oper} {rest : List Oper} {o : Oper} {a : Act} {w : World} {Q : Exit → Act → World → Prop}
end
end Go.Proofs.Ytljfigikkajlnaa
namespace Go.Proofs.Ytljfigikkajlnaa
open Go.RowKit
set_option linter.unusedVariables false
set_option linter.unusedSimpArgs false
def arrW (n : Nat) (f : Nat → W32) : Array Value := ((List.range n).map fun j => Value.int .u32 (wv (f j))).toArray
def arrB (n : Nat) (f : Nat → UInt8) : Array Value := ((List.range n).map fun j => Value.int .u8 (bv (f j))).toArray
section
variable (n : Nat) (f g : Nat → W32)
end
section
variable (n : Nat) (f g : Nat → UInt8)
end
section
variable {P : Program} {ops : Array Oper} {rest : List Oper} {o : Oper} {a : Act} {w : World} {Q : Exit → Act → World → Prop}
end
end Go.Proofs.Ytljfigikkajlnaa
namespace Go.Proofs.Ytljfigikkajlnaa
open Go.RowKit
set_option linter.unusedVariables false
set_option linter.unusedSimpArgs false
section
variable (st st' : Nat → W32) (rest rest' : Nat → UInt8) (held held' n n' : Nat)
end
/-- What a Hash holds when the bytes l were written. -/
def Abs (st : Nat → W32) (rest : Nat → UInt8) (held : Nat) (l : List UInt8) : Prop := st = stAt l (l.length / 64) ∧ held = l.length % 64 ∧ ∀ j, j < held → rest j = l.getD (64 * (l.length / 64) + j) 0
theorem Abs.nil (rest : Nat → UInt8) : Abs h0 rest 0 [] := ⟨rfl, rfl, fun _ h => absurd h (Nat.not_lt_zero _)⟩
theorem stAt_app (l ps : List UInt8) (b : Nat) (h : 64 * b ≤ l.length) : stAt (l ++ ps) b = stAt l b :=
  stAt_congr b fun i hi => by rw [List.getD_eq_getElem?_getD, List.getD_eq_getElem?_getD, List.getElem?_append_left (by omega)]
/-- A whole block. -/
theorem Abs.block {st : Nat → W32} {rest : Nat → UInt8} {l : List UInt8} (h : Abs st rest 0 l) (m : Nat → UInt8) : Abs (madeF st m) rest 0 (l ++ (List.range 64).map m) := by
  obtain ⟨h1, h2, _⟩ := h
  have hl : (l ++ (List.range 64).map m).length = l.length + 64 := by simp
  refine ⟨?_, by rw [hl]; omega, fun _ h => absurd h (Nat.not_lt_zero _)⟩
  rw [hl, show (l.length + 64) / 64 = l.length / 64 + 1 by omega, stAt, stAt_app _ _ _ (by omega), ← h1]
  refine madeF_congr _ fun j hj => ?_
  rw [blockAt, List.getD_eq_getElem?_getD, List.getElem?_append_right (by omega), List.getElem?_map, show 64 * (l.length / 64) + j - l.length = j by omega, List.getElem?_range hj]
  rfl
end Go.Proofs.Ytljfigikkajlnaa
namespace Go.Proofs.Ytljfigikkajlnaa
open Go.RowKit
set_option linter.unusedVariables false
set_option linter.unusedSimpArgs false
attribute [local go_sem high] w_add w_xor w_and w_or w_andNot w_not w_shl w_shr u32_byte u8_word
attribute [local irreducible] arrW arrB kc wpList Code.wp
def Ring (m : Nat → UInt8) (r : Nat → W32) (N : Nat) : Prop := ∀ d, d < N → N ≤ d + 16 → r (d % 16) = sched m d
theorem Ring.first {m : Nat → UInt8} {r : Nat → W32} (h : ∀ j, j < 16 → r j = sched m j) : Ring m r 16 := fun d hd _ => by
  rw [Nat.mod_eq_of_lt hd]; exact h d hd
end Go.Proofs.Ytljfigikkajlnaa
