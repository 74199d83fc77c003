/- DERIVED. A state's values: rising, each once; the program's Values over the library's Sort and Compact. -/
import Derived.Test.YtlmnmlehnigfdaaDvPlain
import Derived.Test.YtlmnmlehnigfdaaGRow
import Derived.Test.YtlmnmlehnigfdaaOrd
import Derived.Test.YtlmnmlehnigfdaaSegBase
import Derived.Test.YtlmnmlehnigfdaaWEqStruct
import Derived.Sort.OwnSorted
import Derived.Sort.Walk0
import Derived.WalkMore
import Derived.Shelf.Small.Bits
import Derived.Shelf.Strconv.Itoa0
import Derived.Shelf.Sort.Plain
import Derived.Shelf.Slices.CompactS
import Derived.Shelf.Slices.Cells
import Derived.Shelf.Slices.In.SortNone
import Derived.Laws.Runes
namespace Go.Proofs.Ytlmnmlehnigfdaa
open Go.RowKit
set_option linter.unusedVariables false
set_option linter.unusedSimpArgs false

def strK : GR.Kind ByteArray where
  e := 9
  s := 1
  b := 16
  enc := fun x => [.string x]
  len := fun _ => rfl
  one := fun x u hu => by
    simp only [List.mem_cons, List.not_mem_nil, or_false] at hu
    subst hu; rfl
  hs := by omega
  hb := by omega
theorem str_info : (Try.prog.info? 9).map (fun i => (i.zero, i.size, i.bytes)) = some (some (.string ⟨#[]⟩), 1, 16) := by kernel_rfl
theorem str_at {w : World} {A : Option Addr} {l : List ByteArray} (h : GR.Rd strK w A l) (i : Nat) (hi : i < l.length) : ∃ ad, A = some ad ∧ (ad.add i).block < w.heap.size ∧ w.cell? (ad.add i) = some (.string l[i]) := by
  obtain ⟨ad, e, hb, hc⟩ := h.at_ i hi
  refine ⟨ad, e, by rw [GR.block_of_add]; exact hb, ?_⟩
  have := hc 0 _ rfl
  simpa [strK] using this

/-- Values that rise. -/
def VRis (L : List ByteArray) : Prop := L.Pairwise fun a b => ltK a b = true
def insV (v : ByteArray) (L : List ByteArray) : List ByteArray := L.takeWhile (fun y => ltK y v) ++ v :: L.dropWhile (fun y => ltK y v)
def hasV (L : List ByteArray) (v : ByteArray) : Bool := L.any fun y => decide (y.data = v.data)
theorem hasV_iff {L : List ByteArray} {v : ByteArray} : hasV L v = true ↔ v ∈ L := by
  simp only [hasV, List.any_eq_true, decide_eq_true_eq]
  constructor
  · rintro ⟨y, hy, h⟩
    obtain rfl : y = v := ByteArray.ext h
    exact hy
  · exact fun h => ⟨v, h, rfl⟩
def addV (L : List ByteArray) (x : Sib) : List ByteArray := if x.gone then L else if hasV L x.v then L else insV x.v L
/-- The values that are there. -/
def valsS (l : List Sib) : List ByteArray := l.foldl addV []
def valsA (a : List Dot) (l : List Sib) : List ByteArray := if staB a l then valsS l else []
theorem insV_cons {v y : ByteArray} {L : List ByteArray} (h : ltK y v = true) : insV v (y :: L) = y :: insV v L := by simp [insV, h]
theorem insV_here {v y : ByteArray} {L : List ByteArray} (h : ltK y v = false) : insV v (y :: L) = v :: y :: L := by simp [insV, h]
theorem insV_mem {v x : ByteArray} : ∀ {L : List ByteArray}, x ∈ insV v L ↔ x = v ∨ x ∈ L
  | [] => by simp [insV]
  | y :: L => by
    rcases h : ltK y v with _ | _
    · rw [insV_here h]; simp
    · rw [insV_cons h, List.mem_cons, insV_mem (L := L), List.mem_cons]
      constructor
      · rintro (h | h | h)
        · exact .inr (.inl h)
        · exact .inl h
        · exact .inr (.inr h)
      · rintro (h | h | h)
        · exact .inr (.inl h)
        · exact .inl h
        · exact .inr (.inr h)
theorem insV_ris {v : ByteArray} : ∀ {L : List ByteArray}, VRis L → v ∉ L → VRis (insV v L)
  | [], _, _ => by simp [insV, VRis]
  | y :: L, h, hn => by
    have q := List.pairwise_cons.1 h
    rcases hy : ltK y v with _ | _
    · rw [insV_here hy]
      have hvy : ltK v y = true := by
        rcases ltK_tri v y with ⟨h1, _⟩ | h1 | ⟨h1, _⟩
        · exact h1
        · exact absurd (by rw [h1]; simp) hn
        · rw [hy] at h1; cases h1
      refine List.Pairwise.cons (fun z hz => ?_) h
      rcases List.mem_cons.1 hz with rfl | hz
      · exact hvy
      · exact ltK_trans hvy (q.1 z hz)
    · rw [insV_cons hy]
      refine List.Pairwise.cons (fun z hz => ?_) (insV_ris q.2 (fun hm => hn (List.mem_cons_of_mem _ hm)))
      rcases insV_mem.1 hz with rfl | hz
      · exact hy
      · exact q.1 z hz
theorem addV_ris {L : List ByteArray} (h : VRis L) (x : Sib) : VRis (addV L x) := by
  unfold addV
  split
  · exact h
  · split
    · exact h
    · rename_i hn
      exact insV_ris h (fun hm => hn (hasV_iff.2 hm))
theorem addV_mem {L : List ByteArray} {x : Sib} {v : ByteArray} : v ∈ addV L x ↔ v ∈ L ∨ (x.gone = false ∧ x.v = v) := by
  unfold addV
  rcases hg : x.gone with _ | _
  · simp only [Bool.false_eq_true, if_false, true_and]
    split
    · rename_i hm
      constructor
      · exact .inl
      · rintro (h | rfl)
        · exact h
        · exact hasV_iff.1 hm
    · rw [insV_mem]
      constructor
      · rintro (h | h)
        · exact .inr h.symm
        · exact .inl h
      · rintro (h | h)
        · exact .inr h
        · exact .inl h.symm
  · simp
theorem fold_ris : ∀ (l : List Sib) {L : List ByteArray}, VRis L → VRis (l.foldl addV L)
  | [], _, h => h
  | x :: l, _, h => fold_ris l (addV_ris h x)
theorem fold_mem {v : ByteArray} : ∀ (l : List Sib) {L : List ByteArray}, v ∈ l.foldl addV L ↔ v ∈ L ∨ ∃ x ∈ l, x.gone = false ∧ x.v = v
  | [], L => by simp
  | x :: l, L => by
    rw [List.foldl_cons, fold_mem l, addV_mem]
    constructor
    · rintro ((h | h) | ⟨y, hy, h⟩)
      · exact .inl h
      · exact .inr ⟨x, by simp, h⟩
      · exact .inr ⟨y, List.mem_cons_of_mem _ hy, h⟩
    · rintro (h | ⟨y, hy, h⟩)
      · exact .inl (.inl h)
      · rcases List.mem_cons.1 hy with rfl | hy
        · exact .inl (.inr h)
        · exact .inr ⟨y, hy, h⟩
theorem vals_ris (l : List Sib) : VRis (valsS l) := fold_ris l List.Pairwise.nil
theorem vals_mem {l : List Sib} {v : ByteArray} : v ∈ valsS l ↔ ∃ x ∈ l, x.gone = false ∧ x.v = v := by unfold valsS; rw [fold_mem]; simp
theorem vris_ext : ∀ {l m : List ByteArray}, VRis l → VRis m → (∀ x, x ∈ l ↔ x ∈ m) → l = m
  | [], [], _, _, _ => rfl
  | [], y :: m, _, _, h => by have := (h y).2 (by simp); cases this
  | x :: l, [], _, _, h => by have := (h x).1 (by simp); cases this
  | x :: l, y :: m, h1, h2, h => by
    have q1 := List.pairwise_cons.1 h1
    have q2 := List.pairwise_cons.1 h2
    have hxy : x = y := by
      rcases List.mem_cons.1 ((h x).1 (by simp)) with h3 | h3
      · exact h3
      · rcases List.mem_cons.1 ((h y).2 (by simp)) with h4 | h4
        · exact h4.symm
        · have := ltK_trans (q1.1 y h4) (q2.1 x h3); rw [ltK_irrefl] at this; cases this
    subst hxy
    congr 1
    refine vris_ext q1.2 q2.2 fun d => ?_
    constructor
    · intro hd
      rcases List.mem_cons.1 ((h d).1 (List.mem_cons_of_mem _ hd)) with rfl | h3
      · have := q1.1 d hd; rw [ltK_irrefl] at this; cases this
      · exact h3
    · intro hd
      rcases List.mem_cons.1 ((h d).2 (List.mem_cons_of_mem _ hd)) with rfl | h3
      · have := q2.1 d hd; rw [ltK_irrefl] at this; cases this
      · exact h3
/-- What Sort and Compact make of the values. -/
def toL (l : List ByteArray) : List (List UInt8) := l.map fun b => b.data.toList
def ofL (l : List (List UInt8)) : List ByteArray := l.map fun b => ⟨b.toArray⟩
def rawV (l : List Sib) : List ByteArray := (l.filter fun x => !x.gone).map (·.v)
theorem cs_ofL (l : List (List UInt8)) : GR.cs strK (ofL l) = l.map encStr := by
  induction l with
  | nil => rfl
  | cons x l ih =>
    show [Value.string ⟨x.toArray⟩] ++ GR.cs strK (ofL l) = _
    rw [ih]; rfl
theorem ofL_toL (l : List ByteArray) : ofL (toL l) = l := by
  induction l with
  | nil => rfl
  | cons x l ih =>
    show (⟨x.data.toList.toArray⟩ : ByteArray) :: ofL (toL l) = _
    rw [ih]
theorem ofL_len (l : List (List UInt8)) : (ofL l).length = l.length := by simp [ofL]
theorem ltK_of {x y : List UInt8} : ltK ⟨x.toArray⟩ ⟨y.toArray⟩ = decide (x < y) := by
  show Op.bytesLess x y = _
  rw [bytesLess_eq]
theorem compact_ok {zs : List (List UInt8)} (hs : zs.Pairwise fun x y => x ≤ y) : (Lib.compact zs).Pairwise (fun x y => x < y) ∧ ∀ x, x ∈ Lib.compact zs ↔ x ∈ zs := by
  have hle : ∀ i j, ∀ (hij : i ≤ j) (hj : j < zs.length), zs[i]'(by omega) ≤ zs[j] := fun i j hij hj => by
    rcases Nat.lt_or_ge i j with h | h
    · exact List.pairwise_iff_getElem.1 hs i j (by omega) hj h
    · obtain rfl : i = j := by omega
      exact List.le_refl _
  have hget : ∀ i, (hi : i < zs.length) → zs.toArray[i]! = zs[i] := fun i hi => by rw [getElem!_pos zs.toArray i (by simpa using hi)]; simp
  have key : ∀ m, m ≤ zs.length → (Lib.compactUpTo zs.toArray m).Pairwise (fun x y => x < y) ∧ (∀ x, x ∈ Lib.compactUpTo zs.toArray m ↔ x ∈ zs.take m) := by
    intro m
    induction m with
    | zero => intro _; simp [Lib.compactUpTo]
    | succ m ih =>
      intro hm
      obtain ⟨h1, h2⟩ := ih (by omega)
      have hm' : m < zs.length := by omega
      rw [Lib.compactUpTo_succ, List.take_succ_eq_append_getElem hm']
      by_cases hk : Lib.keeps zs.toArray m = true
      · rw [if_pos hk, hget m hm']
        refine ⟨List.pairwise_append.2 ⟨h1, by simp, fun x hx y hy => ?_⟩, fun x => by simp only [List.mem_append, h2]⟩
        obtain rfl := List.mem_singleton.1 hy
        have hx' := (h2 x).1 hx
        obtain ⟨i, hi, rfl⟩ := List.getElem_of_mem hx'
        have him : i < m := by simp at hi; omega
        rw [List.getElem_take]
        have h0 : m ≠ 0 := by omega
        have hne : zs[m] ≠ zs[m - 1] := by
          have := hk
          simp only [Lib.keeps, decide_eq_true_eq] at this
          rcases this with h | h
          · exact absurd h h0
          · rwa [hget m hm', hget (m - 1) (by omega)] at h
        have k1 := hle i (m - 1) (by omega) (by omega)
        have k2 := hle (m - 1) m (by omega) hm'
        refine List.lt_of_le_of_lt k1 ?_
        rcases List.le_iff_lt_or_eq.1 k2 with h | h
        · exact h
        · exact absurd h.symm hne
      · rw [if_neg hk, List.append_nil]
        refine ⟨h1, fun x => ?_⟩
        rw [h2, List.mem_append, List.mem_singleton]
        constructor
        · exact .inl
        · rintro (h | rfl)
          · exact h
          · have h0 : m ≠ 0 := fun e => hk (by simp [Lib.keeps, e])
            have he : zs[m] = zs[m - 1] := by
              have : ¬ (m = 0 ∨ zs.toArray[m]! ≠ zs.toArray[m - 1]!) := by simpa [Lib.keeps] using hk
              rw [hget m hm', hget (m - 1) (by omega)] at this
              by_cases h : zs[m] = zs[m - 1]
              · exact h
              · exact absurd (.inr h) this
            rw [he]
            have : zs[m - 1] = (zs.take m)[m - 1]'(by simp; omega) := by rw [List.getElem_take]
            rw [this]; exact List.getElem_mem _
  have := key zs.length (Nat.le_refl _)
  rw [List.take_length] at this
  exact this
theorem sorted_vals (l : List Sib) : ofL (Lib.compact ((toL (rawV l)).mergeSort fun x y => decide (x ≤ y))) = valsS l := by
  have hs : ((toL (rawV l)).mergeSort fun x y => decide (x ≤ y)).Pairwise fun x y => x ≤ y := by
    have := List.pairwise_mergeSort (le := fun (x y : List UInt8) => decide (x ≤ y)) (fun a b c h1 h2 => by simp only [decide_eq_true_eq] at *; exact List.le_trans h1 h2) (fun a b => by simp only [Bool.or_eq_true, decide_eq_true_eq]; exact List.le_total a b) (toL (rawV l))
    exact this.imp fun h => by simpa using h
  obtain ⟨h1, h2⟩ := compact_ok hs
  refine vris_ext ?_ (vals_ris l) fun v => ?_
  · unfold VRis ofL
    rw [List.pairwise_map]
    exact h1.imp fun h => by rw [ltK_of]; simpa using h
  · rw [vals_mem]
    simp only [ofL, List.mem_map, h2, List.mem_mergeSort]
    simp only [List.mem_map, toL, rawV, List.mem_filter, Bool.not_eq_true']
    constructor
    · rintro ⟨b, ⟨c, ⟨x, ⟨hx, hg⟩, rfl⟩, rfl⟩, rfl⟩
      exact ⟨x, hx, hg, rfl⟩
    · rintro ⟨x, hx, hg, rfl⟩
      exact ⟨_, ⟨_, ⟨x, ⟨hx, hg⟩, rfl⟩, rfl⟩, rfl⟩
end Go.Proofs.Ytlmnmlehnigfdaa
