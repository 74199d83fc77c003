/- DERIVED. Merge of two lists of unlike kinds: the kinds, the plain answer, the small functions. -/
import Derived.Test.YtejodabmddcanaaSegCmp
import Derived.Test.YtejodabmddcanaaGRow
import Derived.Test.YtejodabmddcanaaSegLent
import Derived.Test.YtejodabmddcanaaSegAt
import Derived.Test.YtejodabmddcanaaWEqStruct
import Derived.Laws.BytesArg
namespace Go.Proofs.Ytejodabmddcanaa
open Go.RowKit

structure Itm where
  key : ByteArray
  n : Int
deriving DecidableEq
def itmK : GR.Kind Itm where
  e := 28
  s := 2
  b := 24
  enc := fun d => [.string d.key, .int .i64 d.n]
  len := fun _ => rfl
  one := fun x u hu => by
    simp only [List.mem_cons, List.not_mem_nil, or_false] at hu
    rcases hu with rfl | rfl <;> rfl
  hs := by omega
  hb := by omega
def bytK : GR.Kind Int where
  e := 5
  s := 1
  b := 1
  enc := fun d => [.int .u8 d]
  len := fun _ => rfl
  one := fun x u hu => by
    simp only [List.mem_cons, List.not_mem_nil, or_false] at hu
    rcases hu with rfl
    rfl
  hs := by omega
  hb := by omega
structure Tld where
  key : ByteArray
  has : Int
  xk : ByteArray
  xn : Int
  y : Int
deriving DecidableEq
def tldK : GR.Kind Tld where
  e := 34
  s := 5
  b := 56
  enc := fun d => [.string d.key, .int .i64 d.has, .string d.xk, .int .i64 d.xn, .int .u8 d.y]
  len := fun _ => rfl
  one := fun x u hu => by
    simp only [List.mem_cons, List.not_mem_nil, or_false] at hu
    rcases hu with rfl | rfl | rfl | rfl | rfl <;> rfl
  hs := by omega
  hb := by omega
theorem itm_info : (Try.prog.info? 28).map (fun i => (i.zero, i.size, i.bytes)) = some (some (.agg #[.string ⟨#[]⟩, .int .i64 0]), 2, 24) := by kernel_rfl
theorem byt_info : (Try.prog.info? 5).map (fun i => (i.zero, i.size, i.bytes)) = some (some (.int .u8 0), 1, 1) := by kernel_rfl
theorem tld_info : (Try.prog.info? 34).map (fun i => (i.zero, i.size, i.bytes)) = some (some (.agg #[.string ⟨#[]⟩, .int .i64 0, .string ⟨#[]⟩, .int .i64 0, .int .u8 0]), 5, 56) := by kernel_rfl

def dig (n : Int) : ByteArray := Utf8.encode (97 + n % 26)
theorem digit_any (n : Int) (w : World) (h0 : 0 ≤ n) (h1 : n ≤ 255) :
    Calls Try.prog 16 #[.int .u8 n] w fun e w' => e = .returned (.string (dig n)) ∧ w = w' := by
  go_enter Try.func16, Try.ntmps16
  go_wp2
  go_ret
  exact ⟨rfl, rfl⟩
theorem one_any (k : ByteArray) (n : Int) (w : World) :
    Calls Try.prog 15 #[.agg #[.string k, .int .i64 n]] w fun e w' => e = .returned (.string k) ∧ Below w.heap.size w w' := by
  go_enter Try.func15, Try.ntmps15
  go_wp2
  go_ret
  exact ⟨rfl, by repeat (first | exact Below.refl _ _ | refine bl_drewN ?_ _ | refine bl_drew ?_ | refine bl_alloc ?_ _)⟩

theorem eqItm (d : Nat) (w : World) (x0 y0 : ByteArray) (x1 y1 : Int) :
    (Op.equalIn (d + 2) 28 (.agg #[.string x0, .int .i64 x1]) (.agg #[.string y0, .int .i64 y1])).run Try.prog w = .ok (x0.toList == y0.toList && (x1 == y1)) w := by
  refine Go.Proofs.YtejodabmddcanaaW.PrintWords.eqA_of Try.underlying28 (by kernel_rfl) ?_
  refine Go.Proofs.YtejodabmddcanaaW.PrintWords.eqf_cons (by rfl) (by go_simp; rfl) (by go_simp; rfl) (by go_simp) ?_
  exact Go.Proofs.YtejodabmddcanaaW.PrintWords.eqf_last (by rfl) (by go_simp; rfl) (by go_simp; rfl) (by go_simp)
attribute [local go_sem high] eqItm
theorem eqTld (d : Nat) (w : World) (x0 y0 x2 y2 : ByteArray) (x1 y1 x3 y3 x4 y4 : Int) :
    (Op.equalIn (d + 4) 34 (.agg #[.string x0, .int .i64 x1, .string x2, .int .i64 x3, .int .u8 x4]) (.agg #[.string y0, .int .i64 y1, .string y2, .int .i64 y3, .int .u8 y4])).run Try.prog w =
      .ok (x0.toList == y0.toList && (x1 == y1 && ((x2.toList == y2.toList && (x3 == y3)) && (x4 == y4)))) w := by
  refine Go.Proofs.YtejodabmddcanaaW.PrintWords.eqA_of Try.underlying34 (by kernel_rfl) ?_
  refine Go.Proofs.YtejodabmddcanaaW.PrintWords.eqf_cons (by rfl) (by go_simp; rfl) (by go_simp; rfl) (by go_simp) ?_
  refine Go.Proofs.YtejodabmddcanaaW.PrintWords.eqf_cons (by rfl) (by go_simp; rfl) (by go_simp; rfl) (by go_simp) ?_
  refine Go.Proofs.YtejodabmddcanaaW.PrintWords.eqf_cons (by rfl) (by go_simp; rfl) (by go_simp; rfl) (by go_simp) ?_
  exact Go.Proofs.YtejodabmddcanaaW.PrintWords.eqf_last (by rfl) (by go_simp; rfl) (by go_simp; rfl) (by go_simp)
theorem quiet_off2 {P : Program} {f : FuncId} {args : Array Value} {w : World} {a n : Nat} {v : Value}
    (h : Calls P f args (w.drewN (a + n)) fun e w' => e = .returned v ∧ w.drewN (a + n) = w') : Calls P f args (w.drewN (a + n)) fun e w'' => e = .returned v ∧ ∃ m, w'' = w.drewN (a + m) :=
  h.mono fun _ _ ⟨he, hm⟩ => ⟨he, n, hm.symm⟩
theorem info_parts' {t : TypeId} {z : Value} {s b : Nat} (h : (Try.prog.info? t).map (fun i => (i.zero, i.size, i.bytes)) = some (some z, s, b)) : ∃ i, Try.prog.info? t = some i ∧ i.zero = some z ∧ i.size = s ∧ i.bytes = b := by
  cases hq : Try.prog.info? t with
  | none => rw [hq] at h; cases h
  | some i =>
    rw [hq] at h
    simp only [Option.map_some, Option.some.injEq, Prod.mk.injEq] at h
    exact ⟨i, rfl, h.1, h.2.1, h.2.2⟩
theorem itm_at {w : World} {A : Option Addr} {l : List Itm} (h : GR.Rd itmK w A l) (i : Nat) (hi : i < l.length) : ∃ ad, A = some ad ∧ w.cell? (ad.add (i * 2)) = some (.string l[i].key) ∧
    w.cell? ⟨(ad.add (i * 2)).block, (ad.add (i * 2)).off + 1, none⟩ = some (.int .i64 l[i].n) := by
  obtain ⟨ad, e, _, hc⟩ := h.at_ i hi
  have f1 : ∀ m : Nat, ad.add (m + 1) = ⟨(ad.add m).block, (ad.add m).off + 1, none⟩ := fun m => by
    unfold Addr.add
    by_cases hm : m = 0 <;> simp [hm, Nat.add_assoc]
  refine ⟨ad, e, hc 0 _ rfl, ?_⟩
  rw [← f1]; exact hc 1 _ rfl
theorem byt_at {w : World} {A : Option Addr} {l : List Int} (h : GR.Rd bytK w A l) (i : Nat) (hi : i < l.length) : ∃ ad, A = some ad ∧ w.cell? (ad.add i) = some (.int .u8 l[i]) := by
  obtain ⟨ad, e, _, hc⟩ := h.at_ i hi
  refine ⟨ad, e, ?_⟩
  have := hc 0 _ rfl
  simpa [bytK] using this

/-- What Merge tells of an item list and a number list. -/
def mrg : List Itm → List Int → List Tld
  | [], [] => []
  | [], y :: b => ⟨dig y, 2, ⟨#[]⟩, 0, y⟩ :: mrg [] b
  | x :: a, [] => ⟨x.key, 1, x.key, x.n, 0⟩ :: mrg a []
  | x :: a, y :: b =>
    if ltK x.key (dig y) then ⟨x.key, 1, x.key, x.n, 0⟩ :: mrg a (y :: b)
    else if ltK (dig y) x.key then ⟨dig y, 2, ⟨#[]⟩, 0, y⟩ :: mrg (x :: a) b
    else ⟨x.key, 3, x.key, x.n, y⟩ :: mrg a b
termination_by a b => a.length + b.length
theorem mrg_end : mrg [] [] = [] := by rw [mrg]
theorem mrg_left {a : List Itm} {b : List Int} {i k : Nat} (hi : i < a.length) (h : k ≥ b.length ∨ ∃ h : k < b.length, ltK a[i].key (dig b[k]) = true) : mrg (a.drop i) (b.drop k) = ⟨a[i].key, 1, a[i].key, a[i].n, 0⟩ :: mrg (a.drop (i + 1)) (b.drop k) := by
  rw [List.drop_eq_getElem_cons hi]
  rcases h with h | ⟨h, hlt⟩
  · rw [List.drop_eq_nil_of_le h, mrg]
  · rw [List.drop_eq_getElem_cons h, mrg, if_pos hlt]
theorem mrg_right {a : List Itm} {b : List Int} {i k : Nat} (hk : k < b.length) (h : i ≥ a.length ∨ ∃ h : i < a.length, ltK a[i].key (dig b[k]) = false ∧ ltK (dig b[k]) a[i].key = true) : mrg (a.drop i) (b.drop k) = ⟨dig b[k], 2, ⟨#[]⟩, 0, b[k]⟩ :: mrg (a.drop i) (b.drop (k + 1)) := by
  rw [List.drop_eq_getElem_cons hk]
  rcases h with h | ⟨h, h1, h2⟩
  · rw [List.drop_eq_nil_of_le h, mrg]
  · rw [List.drop_eq_getElem_cons h, mrg, if_neg (by simp [h1]), if_pos h2]
theorem mrg_both {a : List Itm} {b : List Int} {i k : Nat} (hi : i < a.length) (hk : k < b.length) (h1 : ltK a[i].key (dig b[k]) = false) (h2 : ltK (dig b[k]) a[i].key = false) : mrg (a.drop i) (b.drop k) = ⟨a[i].key, 3, a[i].key, a[i].n, b[k]⟩ :: mrg (a.drop (i + 1)) (b.drop (k + 1)) := by
  rw [List.drop_eq_getElem_cons hi, List.drop_eq_getElem_cons hk, mrg, if_neg (by simp [h1]), if_neg (by simp [h2])]
theorem mrg_len : ∀ (a : List Itm) (b : List Int), (mrg a b).length ≤ a.length + b.length
  | [], [] => by rw [mrg]; simp
  | [], y :: b => by have := mrg_len [] b; rw [mrg]; simp at *; omega
  | x :: a, [] => by have := mrg_len a []; rw [mrg]; simp at *; omega
  | x :: a, y :: b => by
    have h1 := mrg_len a (y :: b)
    have h2 := mrg_len (x :: a) b
    have h3 := mrg_len a b
    rw [mrg]
    simp only [List.length_cons] at *
    split
    · simp; omega
    · split
      · simp; omega
      · simp; omega
termination_by a b => a.length + b.length
end Go.Proofs.Ytejodabmddcanaa
