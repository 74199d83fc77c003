/- DERIVED. The order of keys; strings.Compare; the library's binary search over a list of entries. -/
import Derived.Test.YtejodabmddcanaaSegValid2
import Derived.Lib.Strings
import Derived.Lib.Slices
import Derived.Lib.Walk
namespace Go.Proofs.Ytejodabmddcanaa
open Go.RowKit

set_option maxHeartbeats 1000000 in
set_option maxRecDepth 100000 in
theorem cmpString_any (a b : ByteArray) (w : World) :
    Calls Try.prog 83 #[.string a, .string b] w fun e w' => e = .returned (.int .i64 (Lib.compareBytes a.data.toList b.data.toList)) ∧ w = w' := by
  go_enter Try.func83, Try.ntmps83
  go_wp2
  rw [run_callFunc_extern Try.func97 (by kernel_rfl) (by kernel_rfl) (by kernel_rfl) (e := Extern.BytealgCompare.compare) (by kernel_rfl), Lib.run_compareString]
  simp only [Result.andThen]
  rw [Oper.upon_value]
  go_wp2
  go_ret
  exact ⟨rfl, rfl⟩
theorem compare_any (a b : ByteArray) (w : World) :
    Calls Try.prog 53 #[.string a, .string b] w fun e w' => e = .returned (.int .i64 (Lib.compareBytes a.data.toList b.data.toList)) ∧ w = w' := by
  go_enter Try.func53, Try.ntmps53
  go_wp2_with (go_at_call 83; refine (cmpString_any _ _ _).mono ?_; rintro e w' ⟨rfl, rfl⟩)
  go_ret
  exact ⟨rfl, rfl⟩

/-- A key stands ahead of another one. -/
def ltK (a b : ByteArray) : Bool := Op.bytesLess a.data.toList b.data.toList
theorem cmp_cases : ∀ a b : List UInt8, (Lib.compareBytes a b = -1 ∧ Op.bytesLess a b = true ∧ a ≠ b ∧ Op.bytesLess b a = false) ∨ (Lib.compareBytes a b = 0 ∧ Op.bytesLess a b = false ∧ a = b) ∨ (Lib.compareBytes a b = 1 ∧ Op.bytesLess a b = false ∧ a ≠ b ∧ Op.bytesLess b a = true)
  | [], [] => .inr (.inl ⟨rfl, rfl, rfl⟩)
  | [], _ :: _ => .inl ⟨rfl, rfl, by simp, rfl⟩
  | _ :: _, [] => .inr (.inr ⟨rfl, rfl, by simp, rfl⟩)
  | x :: a, y :: b => by
    have ih := cmp_cases a b
    simp only [Lib.compareBytes, Op.bytesLess]
    by_cases h1 : x < y
    · have h2 : ¬ y < x := fun h => UInt8.lt_irrefl _ (UInt8.lt_trans h1 h)
      have h3 : x ≠ y := fun h => UInt8.lt_irrefl _ (h ▸ h1)
      refine .inl ?_
      simp [h1, h2, h3, Ne.symm h3]
    · by_cases h2 : y < x
      · have h3 : x ≠ y := fun h => UInt8.lt_irrefl _ (h ▸ h2)
        refine .inr (.inr ?_)
        simp [h1, h2, h3]
      · have h3 : x = y := UInt8.le_antisymm (UInt8.not_lt.1 h2) (UInt8.not_lt.1 h1)
        subst h3
        simp only [UInt8.lt_irrefl, if_false]
        simpa using ih
theorem bytesLess_trans : ∀ a b c : List UInt8, Op.bytesLess a b = true → Op.bytesLess b c = true → Op.bytesLess a c = true
  | _, [], _, h, _ => by simp [Op.bytesLess] at h
  | _, _ :: _, [], _, h => by simp [Op.bytesLess] at h
  | [], _ :: _, _ :: _, _, _ => rfl
  | x :: a, y :: b, z :: c, h, k => by
    have ih := bytesLess_trans a b c
    simp only [Op.bytesLess, Bool.or_eq_true, decide_eq_true_eq, Bool.and_eq_true, beq_iff_eq] at h k ⊢
    rcases h with h | ⟨rfl, h⟩
    · rcases k with k | ⟨rfl, k⟩
      · exact .inl (UInt8.lt_trans h k)
      · exact .inl h
    · rcases k with k | ⟨rfl, k⟩
      · exact .inl k
      · exact .inr ⟨rfl, ih h k⟩
theorem bytesLess_irrefl : ∀ a : List UInt8, Op.bytesLess a a = false
  | [] => rfl
  | x :: a => by simp [Op.bytesLess, bytesLess_irrefl a]
theorem data_inj {a b : ByteArray} (h : a.data.toList = b.data.toList) : a = b := by
  obtain ⟨⟨a⟩⟩ := a
  obtain ⟨⟨b⟩⟩ := b
  simp only at h
  rw [h]
theorem ltK_trans {a b c : ByteArray} (h : ltK a b = true) (k : ltK b c = true) : ltK a c = true := bytesLess_trans _ _ _ h k
theorem ltK_irrefl (a : ByteArray) : ltK a a = false := bytesLess_irrefl _
theorem ltK_tri (a b : ByteArray) : (ltK a b = true ∧ a ≠ b ∧ ltK b a = false) ∨ (a = b) ∨ (ltK b a = true ∧ a ≠ b ∧ ltK a b = false) := by
  rcases cmp_cases a.data.toList b.data.toList with ⟨_, h, hn, h2⟩ | ⟨_, _, h⟩ | ⟨_, h2, hn, h⟩
  · exact .inl ⟨h, fun e => hn (by rw [e]), h2⟩
  · exact .inr (.inl (data_inj h))
  · exact .inr (.inr ⟨h, fun e => hn (by rw [e]), h2⟩)
theorem ltK_asymm {a b : ByteArray} (h : ltK a b = true) : ltK b a = false := by
  rcases ltK_tri a b with ⟨_, _, h2⟩ | rfl | ⟨_, _, h2⟩
  · exact h2
  · rw [ltK_irrefl] at h; cases h
  · rw [h] at h2; cases h2
/-- Go's comparison of keys, as a number. -/
def cmpK (a b : ByteArray) : Int := Lib.compareBytes a.data.toList b.data.toList
theorem cmpK_lt {a b : ByteArray} (h : ltK a b = true) : cmpK a b = -1 := by
  rcases cmp_cases a.data.toList b.data.toList with ⟨e, _⟩ | ⟨_, h2, _⟩ | ⟨_, h2, _⟩
  · exact e
  · simp [ltK, h2] at h
  · simp [ltK, h2] at h
theorem cmpK_self (a : ByteArray) : cmpK a a = 0 := by
  rcases cmp_cases a.data.toList a.data.toList with ⟨_, _, h, _⟩ | ⟨e, _⟩ | ⟨_, _, h, _⟩
  · exact absurd rfl h
  · exact e
  · exact absurd rfl h
theorem cmpK_gt {a b : ByteArray} (h : ltK b a = true) : cmpK a b = 1 := by
  rcases cmp_cases a.data.toList b.data.toList with ⟨_, _, _, h2⟩ | ⟨_, _, h2⟩ | ⟨e, _⟩
  · simp [ltK, h2] at h
  · rw [data_inj h2, ltK_irrefl] at h; cases h
  · exact e
theorem leqB_eq (a b : ByteArray) : leqB a b = !ltK b a := by
  unfold leqB
  rw [toList_eq, toList_eq]
  rcases cmp_cases a.data.toList b.data.toList with ⟨_, h, hn, h2⟩ | ⟨_, h, h2⟩ | ⟨_, h2, hn, h⟩
  · simp [ltK, h, h2]
  · rw [h2]; simp [ltK, bytesLess_irrefl, h2]
  · simp [ltK, h, h2]; intro e; exact hn (by rw [e])

/-- Entries whose keys rise. -/
def Rises (l : List Ent) : Prop := ∀ i j (hi : i < l.length) (hj : j < l.length), i < j → ltK l[i].key l[j].key = true
theorem rises_of_ok {l : List Ent} {wd : Int} (h : okTo l wd l.length) : Rises l := by
  have step : ∀ i (hi : i + 1 < l.length), ltK l[i].key l[i + 1].key = true := by
    intro i hi
    have h1 := h (i + 1) hi
    simp only [okAt, List.getElem?_eq_getElem hi, prevK, List.getElem?_eq_getElem (show i < l.length by omega), Option.map_some, Option.getD_some, Bool.and_eq_true, leqB_eq, Bool.not_not] at h1
    exact h1.2.2
  intro i j hi hj hij
  induction j with
  | zero => omega
  | succ j ih =>
    rcases Nat.lt_or_ge i j with h1 | h1
    · exact ltK_trans (ih (by omega) h1) (step j hj)
    · obtain rfl : i = j := by omega
      exact step i hj
theorem ok_of_valid {l : List Ent} {wd : Int} (h : validB l wd = true) : okTo l wd l.length ∧ 1 ≤ wd ∧ wd ≤ 32 := by
  simp only [validB, Bool.and_eq_true, List.all_eq_true, List.mem_range, decide_eq_true_eq] at h
  exact ⟨fun i hi => h.1 i hi, h.2.1, h.2.2⟩
theorem rises_of_list {l : List Ent} (h : listB l = true) : Rises l := by
  cases l with
  | nil => intro i j hi; exact absurd hi (by simp)
  | cons e l => exact rises_of_ok (ok_of_valid h).1

/-- How many entries stand ahead of a key. -/
def cut (l : List Ent) (key : ByteArray) : Nat := (l.takeWhile fun e => ltK e.key key).length
theorem cut_le (l : List Ent) (key : ByteArray) : cut l key ≤ l.length := (List.takeWhile_prefix _).length_le
theorem cut_of {l : List Ent} {key : ByteArray} {i : Nat} (hi : i ≤ l.length) (h1 : ∀ j (hj : j < l.length), j < i → ltK l[j].key key = true) (h2 : ∀ (h : i < l.length), ltK l[i].key key = false) : cut l key = i := by
  unfold cut
  induction l generalizing i with
  | nil => simp at hi; simp [hi]
  | cons e l ih =>
    cases i with
    | zero => simp [show ltK e.key key = false from h2 (by simp)]
    | succ i =>
      have he : ltK e.key key = true := h1 0 (by simp) (by omega)
      simp only [List.takeWhile_cons, he, if_true, List.length_cons]
      rw [ih (by simpa using hi) (fun j hj hji => by have := h1 (j + 1) (by simpa using hj) (by omega); simpa using this) (fun h => by have := h2 (by simpa using h); simpa using this)]
/-- Is the key there? -/
def there (l : List Ent) (key : ByteArray) : Bool := match l[cut l key]? with | none => false | some e => decide (e.key = key)

end Go.Proofs.Ytejodabmddcanaa
