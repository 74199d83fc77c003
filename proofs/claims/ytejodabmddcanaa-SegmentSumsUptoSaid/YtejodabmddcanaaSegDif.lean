/- DERIVED. Where two lists of entries differ: the plain answer; rows of differences. -/
import Derived.Test.YtejodabmddcanaaSegCmp
import Derived.Test.YtejodabmddcanaaGRow
import Derived.Test.YtejodabmddcanaaSegLent
namespace Go.Proofs.Ytejodabmddcanaa
open Go.RowKit

/-- A difference: a key, what the left list has of it, what the right one has. -/
structure Dif where
  key : ByteArray
  left : ByteArray
  right : ByteArray
deriving DecidableEq
def difK : GR.Kind Dif where
  e := 51
  s := 3
  b := 48
  enc := fun d => [.string d.key, .string d.left, .string d.right]
  len := fun _ => rfl
  one := fun x u hu => by
    simp only [List.mem_cons, List.not_mem_nil, or_false] at hu
    rcases hu with rfl | rfl | rfl <;> rfl
  hs := by omega
  hb := by omega
theorem dif_info : (Try.prog.info? 51).map (fun i => (i.zero, i.size, i.bytes)) = some (some (.agg #[.string ⟨#[]⟩, .string ⟨#[]⟩, .string ⟨#[]⟩]), 3, 48) := by kernel_rfl

def em : ByteArray := ⟨#[]⟩
/-- The differences of two rising lists, in order. -/
def dif : List Ent → List Ent → List Dif
  | [], [] => []
  | [], y :: b => ⟨y.key, em, y.sum⟩ :: dif [] b
  | x :: a, [] => ⟨x.key, x.sum, em⟩ :: dif a []
  | x :: a, y :: b =>
    if ltK x.key y.key then ⟨x.key, x.sum, em⟩ :: dif a (y :: b)
    else if ltK y.key x.key then ⟨y.key, em, y.sum⟩ :: dif (x :: a) b
    else if x.sum = y.sum then dif a b else ⟨x.key, x.sum, y.sum⟩ :: dif a b
termination_by a b => a.length + b.length
theorem dif_end : dif [] [] = [] := by rw [dif]
theorem dif_left {a b : List Ent} {i k : Nat} (hi : i < a.length) (h : k ≥ b.length ∨ ∃ h : k < b.length, ltK a[i].key b[k].key = true) : dif (a.drop i) (b.drop k) = ⟨a[i].key, a[i].sum, em⟩ :: dif (a.drop (i + 1)) (b.drop k) := by
  rw [List.drop_eq_getElem_cons hi]
  rcases h with h | ⟨h, hlt⟩
  · rw [List.drop_eq_nil_of_le h, dif]
  · rw [List.drop_eq_getElem_cons h, dif, if_pos hlt]
theorem dif_right {a b : List Ent} {i k : Nat} (hk : k < b.length) (h : i ≥ a.length ∨ ∃ h : i < a.length, ltK a[i].key b[k].key = false ∧ ltK b[k].key a[i].key = true) : dif (a.drop i) (b.drop k) = ⟨b[k].key, em, b[k].sum⟩ :: dif (a.drop i) (b.drop (k + 1)) := by
  rw [List.drop_eq_getElem_cons hk]
  rcases h with h | ⟨h, h1, h2⟩
  · rw [List.drop_eq_nil_of_le h, dif]
  · rw [List.drop_eq_getElem_cons h, dif, if_neg (by simp [h1]), if_pos h2]
theorem dif_same {a b : List Ent} {i k : Nat} (hi : i < a.length) (hk : k < b.length) (h1 : ltK a[i].key b[k].key = false) (h2 : ltK b[k].key a[i].key = false) (h : a[i].sum = b[k].sum) : dif (a.drop i) (b.drop k) = dif (a.drop (i + 1)) (b.drop (k + 1)) := by
  rw [List.drop_eq_getElem_cons hi, List.drop_eq_getElem_cons hk, dif, if_neg (by simp [h1]), if_neg (by simp [h2]), if_pos h]
theorem dif_both {a b : List Ent} {i k : Nat} (hi : i < a.length) (hk : k < b.length) (h1 : ltK a[i].key b[k].key = false) (h2 : ltK b[k].key a[i].key = false) (h : a[i].sum ≠ b[k].sum) : dif (a.drop i) (b.drop k) = ⟨a[i].key, a[i].sum, b[k].sum⟩ :: dif (a.drop (i + 1)) (b.drop (k + 1)) := by
  rw [List.drop_eq_getElem_cons hi, List.drop_eq_getElem_cons hk, dif, if_neg (by simp [h1]), if_neg (by simp [h2]), if_neg h]
theorem dif_len : ∀ a b : List Ent, (dif a b).length ≤ a.length + b.length
  | [], [] => by rw [dif]; simp
  | [], y :: b => by have := dif_len [] b; rw [dif]; simp at *; omega
  | x :: a, [] => by have := dif_len a []; rw [dif]; simp at *; omega
  | x :: a, y :: b => by
    have h1 := dif_len a (y :: b)
    have h2 := dif_len (x :: a) b
    have h3 := dif_len a b
    rw [dif]
    simp only [List.length_cons] at *
    split
    · simp; omega
    · split
      · simp; omega
      · split
        · omega
        · simp; omega
termination_by a b => a.length + b.length

def difE (a b : List Ent) : Int := if listB a && listB b then 0 else 140
def difA (a b : List Ent) : List Dif := if listB a && listB b then dif a b else []
theorem difA_len (a b : List Ent) : (difA a b).length ≤ a.length + b.length := by
  unfold difA
  split
  · exact dif_len a b
  · simp

theorem eq51 (d : Nat) (w : World) (x0 y0 x1 y1 x2 y2 : ByteArray) :
    (Op.equalIn (d + 2) 51 (.agg #[.string x0, .string x1, .string x2]) (.agg #[.string y0, .string y1, .string y2])).run Try.prog w = .ok (x0.toList == y0.toList && (x1.toList == y1.toList && (x2.toList == y2.toList))) w := by
  refine Go.Proofs.YtejodabmddcanaaW.PrintWords.eqA_of Try.underlying51 (by kernel_rfl) ?_
  refine Go.Proofs.YtejodabmddcanaaW.PrintWords.eqf_cons (by rfl) (by go_simp; rfl) (by go_simp; rfl) (by go_simp) ?_
  refine Go.Proofs.YtejodabmddcanaaW.PrintWords.eqf_cons (by rfl) (by go_simp; rfl) (by go_simp; rfl) (by go_simp) ?_
  exact Go.Proofs.YtejodabmddcanaaW.PrintWords.eqf_last (by rfl) (by go_simp; rfl) (by go_simp; rfl) (by go_simp)

attribute [local go_sem high] eq51
/-- A difference in a slice, in the walk's own spelling. -/
theorem dif_at {w : World} {A : Option Addr} {l : List Dif} (h : GR.Rd difK w A l) (i : Nat) (hi : i < l.length) : ∃ ad, A = some ad ∧ w.cell? (ad.add (i * 3)) = some (.string l[i].key) ∧
    w.cell? ⟨(ad.add (i * 3)).block, (ad.add (i * 3)).off + 1, none⟩ = some (.string l[i].left) ∧ w.cell? ⟨(ad.add (i * 3)).block, (ad.add (i * 3)).off + 2, none⟩ = some (.string l[i].right) := by
  obtain ⟨ad, e, _, hc⟩ := h.at_ i hi
  have f1 : ∀ m : Nat, ad.add (m + 1) = ⟨(ad.add m).block, (ad.add m).off + 1, none⟩ := fun m => by
    unfold Addr.add
    by_cases hm : m = 0 <;> simp [hm, Nat.add_assoc]
  have f2 : ∀ m : Nat, ad.add (m + 2) = ⟨(ad.add m).block, (ad.add m).off + 2, none⟩ := fun m => by
    unfold Addr.add
    by_cases hm : m = 0 <;> simp [hm, Nat.add_assoc]
  refine ⟨ad, e, ?_, ?_, ?_⟩
  · have := hc 0 _ rfl
    exact this
  · rw [← f1]; exact hc 1 _ rfl
  · rw [← f2]; exact hc 2 _ rfl

set_option maxRecDepth 100000 in
set_option maxHeartbeats 800000 in
theorem sameD_any (A B : Option Addr) (c d : Nat) (l m : List Dif) (w : World) (hl : GR.Rd difK w A l) (hm : GR.Rd difK w B m) :
    Calls Try.prog 30 #[.slice A l.length c, .slice B m.length d] w fun e w' => e = .returned (.bool (decide (l = m))) ∧ Drawn w w' := by
  have h1 : l.length * 48 ≤ 140737488355328 := hl.max
  have h2 : m.length * 48 ≤ 140737488355328 := hm.max
  have HL := Lib.hid hl
  have HM := Lib.hid hm
  clear hl hm
  by_cases hn : l.length = m.length
  · have b0 : (l.length != m.length) = false := by simp [hn]
    have b1 : ((l.length : Int) != (m.length : Int)) = false := by simp [hn]
    have HN := Lib.hid hn
    clear hn
    go_enter Try.func30, Try.ntmps30
    go_wp2
    go_loopw [5] (fun i w' => ∃ k : Nat, k ≤ l.length ∧ i = .int .i64 k ∧ Hid (l.take k = m.take k) ∧ Hid (Drawn w w')) (fun i _ => l.length - (intOf i).toNat)
    case atStart => exact ⟨0, Nat.zero_le _, rfl, Lib.hid (by simp), Lib.hid (Drawn.refl w)⟩
    case round =>
      obtain ⟨k, hk, rfl, hsame, hw⟩ := hrel
      have hL1 := HL.out.below (hw.out.below w.heap.size)
      have hM1 := HM.out.below (hw.out.below w.heap.size)
      by_cases hlt : k < l.length
      · have hlt2 : k < m.length := by have := HN.out; omega
        have i0 : (0 : Int) ≤ (k : Int) := by omega
        have i1 : (k : Int) < (l.length : Int) := by omega
        have i2 : (k : Int) < (m.length : Int) := by omega
        obtain ⟨ad, rfl, c0, c1, c2⟩ := dif_at hL1 k hlt
        obtain ⟨bd, rfl, d0, d1, d2⟩ := dif_at hM1 k hlt2
        clear hL1 hM1

        by_cases hq : l[k] = m[k]
        · have q0 : (l[k].key.toList == m[k].key.toList) = true := by rw [hq]; simp
          have q1 : (l[k].left.toList == m[k].left.toList) = true := by rw [hq]; simp
          have q2 : (l[k].right.toList == m[k].right.toList) = true := by rw [hq]; simp
          have HQ := Lib.hid hq
          clear hq
          go_wp2
          go_quiet (fail)
          go_wp2
          go_roundw
          case rel => exact ⟨k + 1, by omega, by go_num, Lib.hid (by rw [List.take_succ_eq_append_getElem hlt, List.take_succ_eq_append_getElem hlt2, hsame.out, HQ.out]), Lib.hid (hw.out.drewN _)⟩
          case measure => simp [intOf]; omega
        · have HV := Lib.hid (show decide (l = m) = false by simp; intro e; subst e; exact hq rfl)
          have q0 : (l[k].key.toList == m[k].key.toList && (l[k].left.toList == m[k].left.toList && (l[k].right.toList == m[k].right.toList))) = false := by
            rw [Bool.eq_false_iff]
            intro h
            simp only [Bool.and_eq_true, str_eq, decide_eq_true_eq] at h
            apply hq
            cases h3 : l[k]; cases h4 : m[k]; simp only [h3, h4] at h; obtain ⟨rfl, rfl, rfl⟩ := h; rfl
          clear hq
          go_wp2
          go_quiet (fail)
          go_wp2
          go_ret
          exact ⟨ret_bool HV.out.symm, hw.out.drewN _⟩
      · obtain rfl : k = l.length := by omega
        have HV := Lib.hid (show decide (l = m) = true by
          have := hsame.out
          rw [List.take_length, HN.out, List.take_length] at this
          simpa using this)
        go_wp2
        go_ret
        exact ⟨ret_bool HV.out.symm, hw.out⟩
  · have HV := Lib.hid (show decide (l = m) = false by simp; intro e; exact hn (by rw [e]))
    have b0 : (l.length != m.length) = true := by simpa using hn
    have b1 : ((l.length : Int) != (m.length : Int)) = true := by simp; omega
    clear hn
    go_enter Try.func30, Try.ntmps30
    go_wp2
    go_ret
    exact ⟨ret_bool HV.out.symm, Drawn.refl _⟩
end Go.Proofs.Ytejodabmddcanaa
