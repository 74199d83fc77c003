/- DERIVED. Readers of bytes, in plain terms: a number to the base 128, so many bytes, a text; what was read stood there in its own form. The program's Reader: so many bytes, one byte, a number to the base 128, a text, the error, the end. The program's Reader: two bytes as a number, what is left, so many bytes. The document's Reader: so many bytes, one byte, a number to the base 128, a text, the error, the end. The document's number to the base 128, its text, its end. (Several texts in one: RdP, RdW, RdK, RdD, RdN.) -/
import Derived.Test.YtljfigikkajlnaaFrmUint
import Derived.Laws.Bits64b
namespace Go.Proofs.Ytljfigikkajlnaa
open Go.RowKit Go.Lib
set_option linter.unusedVariables false
set_option linter.unusedSimpArgs false

def uscan (most : Nat) : List UInt8 → Nat → Nat → Int × Nat × Nat
  | [], _, _ => (10, 0, 0)
  | c :: t, i, v =>
    if i = 9 ∧ 1 < c.toNat then (11, 0, 0)
    else if 128 ≤ c.toNat then uscan most t (i + 1) (v + c.toNat % 128 * 128 ^ i)
    else if (c.toNat = 0 ∧ 0 < i) ∨ most < v + c.toNat % 128 * 128 ^ i then (11, 0, 0)
    else (0, v + c.toNat % 128 * 128 ^ i, i + 1)
def digs : Nat → List UInt8 → List UInt8
  | 0, _ => []
  | _ + 1, [] => []
  | k + 1, c :: t => if c.toNat < 128 then [c] else c :: digs k t
def dnum : List UInt8 → Nat
  | [] => 0
  | c :: t => c.toNat % 128 + 128 * dnum t
def lastN : List UInt8 → Nat
  | [] => 0
  | [c] => c.toNat
  | _ :: c :: t => lastN (c :: t)
def numP (most : Nat) (d : List UInt8) : Int × Nat :=
  if d.length < 10 ∧ (d.length = 0 ∨ 128 ≤ lastN d) then (10, 0)
  else if (d.length = 10 ∧ 1 < lastN d) ∨ (1 < d.length ∧ lastN d = 0) then (11, 0)
  else if most < dnum d then (11, 0) else (0, dnum d)
theorem digs_len : ∀ (k : Nat) (l : List UInt8), (digs k l).length ≤ k ∧ (digs k l).length ≤ l.length
  | 0, _ => by simp [digs]
  | _ + 1, [] => by simp [digs]
  | k + 1, c :: t => by
    have := digs_len k t
    rw [digs]
    split
    · simp
    · simp; omega
theorem lastN_getD : ∀ d : List UInt8, lastN d = (d.getD (d.length - 1) 0).toNat
  | [] => rfl
  | [c] => rfl
  | a :: c :: t => by
    rw [lastN, lastN_getD (c :: t)]
    simp
theorem uscan_gen (most : Nat) : ∀ (l : List UInt8) (i v : Nat), i ≤ 9 → uscan most l i v =
    (if i + (digs (10 - i) l).length < 10 ∧ ((digs (10 - i) l).length = 0 ∨ 128 ≤ lastN (digs (10 - i) l)) then (10, 0, 0)
     else if (i + (digs (10 - i) l).length = 10 ∧ 1 < lastN (digs (10 - i) l)) ∨ (1 < i + (digs (10 - i) l).length ∧ lastN (digs (10 - i) l) = 0) then (11, 0, 0)
     else if most < v + 128 ^ i * dnum (digs (10 - i) l) then (11, 0, 0) else (0, v + 128 ^ i * dnum (digs (10 - i) l), i + (digs (10 - i) l).length))
  | [], i, v, hi => by
    obtain ⟨k, hk⟩ : ∃ k, 10 - i = k + 1 := ⟨9 - i, by omega⟩
    rw [hk, uscan, digs, if_pos ⟨by simp; omega, .inl rfl⟩]
  | c :: t, i, v, hi => by
    obtain ⟨k, hk⟩ : ∃ k, 10 - i = k + 1 := ⟨9 - i, by omega⟩
    rw [hk, uscan, digs]
    by_cases hc : c.toNat < 128
    · rw [if_pos hc]
      simp only [List.length_singleton, lastN, dnum, Nat.mul_zero, Nat.add_zero, Nat.mul_comm (128 ^ i)]
      rw [if_neg (show ¬ 128 ≤ c.toNat by omega)]
      by_cases h1 : i = 9 ∧ 1 < c.toNat
      · rw [if_pos h1, if_neg (by omega), if_pos (.inl (by omega))]
      · rw [if_neg h1]
        by_cases h2 : c.toNat = 0 ∧ 0 < i
        · rw [if_pos (.inl h2), if_neg (by omega), if_pos (.inr (by omega))]
        · rw [if_neg (show ¬ (i + 1 < 10 ∧ (1 = 0 ∨ 128 ≤ c.toNat)) by omega), if_neg (show ¬ (i + 1 = 10 ∧ 1 < c.toNat ∨ 1 < i + 1 ∧ c.toNat = 0) by omega)]
          by_cases h3 : most < v + c.toNat % 128 * 128 ^ i
          · rw [if_pos (.inr h3), if_pos h3]
          · rw [if_neg (by rintro (h | h); exact h2 h; exact h3 h), if_neg h3]
    · rw [if_neg hc, if_pos (show 128 ≤ c.toNat by omega)]
      by_cases h9 : i = 9
      · subst h9
        obtain rfl : k = 0 := by omega
        rw [if_pos ⟨rfl, by omega⟩, digs]
        simp only [List.length_singleton, lastN]
        rw [if_neg (by omega), if_pos (.inl ⟨by first | trivial | omega, by omega⟩)]
      · rw [if_neg (by omega), uscan_gen most t (i + 1) _ (by omega), show 10 - (i + 1) = k by omega]
        match hd : digs k t with
        | [] =>
          simp only [List.length_nil, List.length_singleton, lastN]
          rw [if_pos (show i + 1 < 10 ∧ (1 = 0 ∨ 128 ≤ c.toNat) from ⟨by omega, .inr (by omega)⟩), if_pos ⟨by omega, .inl trivial⟩]
        | x :: d =>
          have e1 : i + (c :: x :: d).length = i + 1 + (x :: d).length := by simp; omega
          have e2 : v + 128 ^ i * dnum (c :: x :: d) = v + c.toNat % 128 * 128 ^ i + 128 ^ (i + 1) * dnum (x :: d) := by
            rw [dnum, Nat.pow_succ, Nat.mul_add, Nat.mul_comm (128 ^ i) (c.toNat % 128), Nat.mul_assoc, Nat.add_assoc]
          rw [e1, e2, lastN]
          simp only [List.length_cons, Nat.succ_ne_zero, false_or, Nat.add_one_ne_zero]
theorem uscan_num (most : Nat) (l : List UInt8) : uscan most l 0 0 = ((numP most (digs 10 l)).1, (numP most (digs 10 l)).2, if (numP most (digs 10 l)).1 = 0 then (digs 10 l).length else 0) := by
  rw [uscan_gen most l 0 0 (by omega)]
  simp only [Nat.zero_add, Nat.pow_zero, Nat.one_mul, Nat.sub_zero, numP]
  split
  · rfl
  · split
    · rfl
    · split
      · rfl
      · rfl

theorem u8_of (c : UInt8) (n : Nat) (h : c.toNat = n) : c = UInt8.ofNat n := by subst h; exact (UInt8.ofNat_toNat).symm
theorem uscan_form (most : Nat) : ∀ (l : List UInt8) (i v r n : Nat), uscan most l i v = (0, r, n) →
    ∃ u, r = v + 128 ^ i * u ∧ i < n ∧ n - i ≤ l.length ∧ l.take (n - i) = uintU u ∧ (0 < i → 0 < u) ∧ r ≤ most
  | [], i, v, r, n, h => by rw [uscan] at h; injection h with h1 _; omega
  | c :: t, i, v, r, n, h => by
    rw [uscan] at h
    have h256 := c.toNat_lt
    split at h
    · injection h with h1 _; omega
    · split at h
      · rename_i hc
        obtain ⟨u, e1, e2, e3, e4, e5, e6⟩ := uscan_form most t (i + 1) _ r n h
        have hu := e5 (by omega)
        refine ⟨c.toNat % 128 + 128 * u, ?_, by omega, by simp; omega, ?_, fun _ => by omega, e6⟩
        · rw [e1, Nat.pow_succ, Nat.mul_add, Nat.mul_comm (128 ^ i) (c.toNat % 128), Nat.mul_assoc, Nat.add_assoc]
        · rw [show n - i = n - (i + 1) + 1 by omega, List.take_succ_cons, e4, uintU_big (v := c.toNat % 128 + 128 * u) (by omega), show (c.toNat % 128 + 128 * u) / 128 = u by omega, show (c.toNat % 128 + 128 * u) % 128 = c.toNat % 128 by omega]
          rw [← u8_of c _ (by omega)]
      · rename_i hc
        split at h
        · injection h with h1 _; omega
        · rename_i h3
          have h4 : v + c.toNat % 128 * 128 ^ i = r ∧ i + 1 = n := by injection h with _ h; injection h with h1 h2; exact ⟨h1, h2⟩
          obtain ⟨rfl, rfl⟩ := h4
          refine ⟨c.toNat, by rw [Nat.mod_eq_of_lt (by omega), Nat.mul_comm], by omega, by simp, ?_, fun hi => ?_, ?_⟩
          · rw [show i + 1 - i = 0 + 1 by omega, List.take_succ_cons, List.take_zero, uintU_small (by omega)]
            exact congrArg (fun x => [x]) (u8_of c _ rfl)
          · refine Nat.pos_of_ne_zero fun h0 => h3 (.inl ⟨h0, hi⟩)
          · exact Nat.le_of_not_lt fun hx => h3 (.inr hx)
theorem pow_9 : 128 ^ 9 = 9223372036854775808 := by decide
theorem uscan_of (most : Nat) (hm : most < 18446744073709551616) (t : List UInt8) : ∀ (u i v : Nat), i ≤ 9 → (0 < i → 0 < u) → v + 128 ^ i * u ≤ most → uscan most (uintU u ++ t) i v = (0, v + 128 ^ i * u, i + (uintU u).length) := by
  intro u
  induction u using Nat.strongRecOn with
  | _ u ih =>
    intro i v h9 hi hle
    have hlast : i = 9 → u ≤ 1 := by
      rintro rfl
      rw [pow_9] at hle; omega
    by_cases hu : u < 128
    · have hc : (UInt8.ofNat u).toNat = u := by rw [UInt8.toNat_ofNat']; omega
      rw [uintU_small hu, List.cons_append, uscan, hc, if_neg (by omega), if_neg (by omega), Nat.mod_eq_of_lt hu, Nat.mul_comm u, if_neg (by omega)]
      rfl
    · have hc : (UInt8.ofNat (u % 128 + 128)).toNat = u % 128 + 128 := by rw [UInt8.toNat_ofNat']; omega
      have h99 : i ≠ 9 := fun e => by have := hlast e; omega
      have e2 : v + (u % 128 + 128) % 128 * 128 ^ i + 128 ^ (i + 1) * (u / 128) = v + 128 ^ i * u := by
        have h1 : (u % 128 + 128) % 128 = u % 128 := by omega
        have h2 : u = u % 128 + 128 * (u / 128) := by omega
        rw [h1, Nat.pow_succ, Nat.mul_assoc, Nat.mul_comm (u % 128), Nat.add_assoc, ← Nat.mul_add, ← h2]
      rw [uintU_big hu, List.cons_append, uscan, hc, if_neg (by omega), if_pos (by omega), ih (u / 128) (by omega) (i + 1) _ (by omega) (fun _ => by omega) (by rw [e2]; exact hle), e2]
      simp; omega

/-- A reader's place and error. -/
structure RS where
  n : Nat
  e : Int
def rdU (b : List UInt8) (most : Nat) (s : RS) : Nat × RS :=
  if s.e = 0 then (if (uscan most (b.drop s.n) 0 0).1 = 0 then ((uscan most (b.drop s.n) 0 0).2.1, ⟨s.n + (uscan most (b.drop s.n) 0 0).2.2, 0⟩) else (0, ⟨s.n, (uscan most (b.drop s.n) 0 0).1⟩)) else (0, s)
def rdR (b : List UInt8) (k : Nat) (s : RS) : List UInt8 × RS :=
  if s.e = 0 then (if b.length - s.n < k then ([], ⟨s.n, 10⟩) else ((b.drop s.n).take k, ⟨s.n + k, 0⟩)) else ([], s)
def rdB (b : List UInt8) (s : RS) : UInt8 × RS := ((rdR b 1 s).1.headD 0, (rdR b 1 s).2)
def rdT (b : List UInt8) (most : Nat) (s : RS) : List UInt8 × RS :=
  if (rdR b (rdU b most s).1 (rdU b most s).2).2.e = 0 then rdR b (rdU b most s).1 (rdU b most s).2 else ([], ⟨s.n, (rdR b (rdU b most s).1 (rdU b most s).2).2.e⟩)
theorem rdU_err {b : List UInt8} {most : Nat} {s : RS} (h : s.e ≠ 0) : rdU b most s = (0, s) := by rw [rdU, if_neg h]
theorem rdR_err {b : List UInt8} {k : Nat} {s : RS} (h : s.e ≠ 0) : rdR b k s = ([], s) := by rw [rdR, if_neg h]
theorem rdB_err {b : List UInt8} {s : RS} (h : s.e ≠ 0) : rdB b s = (0, s) := by rw [rdB, rdR_err h]; rfl
theorem rdT_err {b : List UInt8} {most : Nat} {s : RS} (h : s.e ≠ 0) : rdT b most s = ([], s) := by rw [rdT, rdU_err h, rdR_err h, if_neg h]
/-- What was read: its place lies on, and its bytes are the form. -/
theorem rdU_form {b : List UInt8} {most : Nat} {s : RS} (hs : s.n ≤ b.length) (h : (rdU b most s).2.e = 0) : s.e = 0 ∧ (rdU b most s).1 ≤ most ∧ (rdU b most s).2.n ≤ b.length ∧ b.take (rdU b most s).2.n = b.take s.n ++ uintU (rdU b most s).1 := by
  unfold rdU at h ⊢
  split at h
  · rename_i h0
    split at h
    · rename_i h1
      rw [if_pos h0, if_pos h1]
      rcases hx : uscan most (b.drop s.n) 0 0 with ⟨x, r, n⟩
      rw [hx] at h1
      obtain rfl : x = 0 := h1
      obtain ⟨u, e1, e2, e3, e4, _, e6⟩ := uscan_form most _ 0 0 r n hx
      simp only [Nat.sub_zero, List.length_drop, Nat.zero_add, Nat.pow_zero, Nat.one_mul] at e1 e3 e4
      subst e1
      refine ⟨h0, e6, by show s.n + n ≤ _; omega, ?_⟩
      show b.take (s.n + n) = b.take s.n ++ uintU r
      rw [List.take_add, e4]
    · rename_i h1
      exact absurd h h1
  · rename_i h0
    exact absurd h h0
theorem rdU_le (b : List UInt8) (most : Nat) (s : RS) : (rdU b most s).1 ≤ most := by
  unfold rdU
  split
  · split
    · rename_i h1
      rcases hx : uscan most (b.drop s.n) 0 0 with ⟨x, r, n⟩
      rw [hx] at h1
      obtain rfl : x = 0 := h1
      obtain ⟨u, e1, e2, e3, e4, _, e6⟩ := uscan_form most _ 0 0 r n hx
      exact e6
    · exact Nat.zero_le _
  · exact Nat.zero_le _
theorem rdU_place {b : List UInt8} {most : Nat} {s : RS} (hs : s.n ≤ b.length) : (rdU b most s).2.n ≤ b.length := by
  by_cases h : (rdU b most s).2.e = 0
  · exact (rdU_form hs h).2.2.1
  · unfold rdU at h ⊢
    split
    · rename_i h0
      rw [if_pos h0] at h
      split
      · rename_i h1; rw [if_pos h1] at h; exact absurd rfl h
      · exact hs
    · exact hs
theorem rdR_form {b : List UInt8} {k : Nat} {s : RS} (hs : s.n ≤ b.length) (h : (rdR b k s).2.e = 0) : s.e = 0 ∧ (rdR b k s).1.length = k ∧ (rdR b k s).2.n = s.n + k ∧ s.n + k ≤ b.length ∧ b.take (rdR b k s).2.n = b.take s.n ++ (rdR b k s).1 := by
  unfold rdR at h ⊢
  split at h
  · rename_i h0
    split at h
    · exact absurd (show (10 : Int) = 0 from h) (by decide)
    · rename_i h1
      rw [if_pos h0, if_neg h1]
      exact ⟨h0, by simp; omega, rfl, by omega, List.take_add⟩
  · rename_i h0
    exact absurd h h0
theorem rdR_place {b : List UInt8} {k : Nat} {s : RS} (hs : s.n ≤ b.length) : (rdR b k s).2.n ≤ b.length := by
  by_cases h : (rdR b k s).2.e = 0
  · have := rdR_form hs h; omega
  · unfold rdR at h ⊢
    split
    · split
      · exact hs
      · rename_i h0 h1; rw [if_pos h0, if_neg h1] at h; exact absurd rfl h
    · exact hs
theorem rdR_len {b : List UInt8} {k : Nat} {s : RS} : (rdR b k s).1.length ≤ k := by
  unfold rdR
  split
  · split
    · simp
    · simp; omega
  · simp
theorem rdB_form {b : List UInt8} {s : RS} (hs : s.n ≤ b.length) (h : (rdB b s).2.e = 0) : s.e = 0 ∧ (rdB b s).2.n ≤ b.length ∧ b.take (rdB b s).2.n = b.take s.n ++ [(rdB b s).1] := by
  obtain ⟨h1, h2, h3, h4, h5⟩ := rdR_form (k := 1) hs h
  refine ⟨h1, by show (rdR b 1 s).2.n ≤ _; omega, ?_⟩
  show b.take (rdR b 1 s).2.n = _ ++ [(rdR b 1 s).1.headD 0]
  rw [h5]
  match hx : (rdR b 1 s).1 with
  | [] => rw [hx] at h2; simp at h2
  | [c] => rfl
  | _ :: _ :: _ => rw [hx] at h2; simp at h2
theorem rdT_form {b : List UInt8} {most : Nat} {s : RS} (hs : s.n ≤ b.length) (h : (rdT b most s).2.e = 0) : s.e = 0 ∧ (rdT b most s).1.length ≤ most ∧ (rdT b most s).2.n ≤ b.length ∧ b.take (rdT b most s).2.n = b.take s.n ++ textU ⟨(rdT b most s).1.toArray⟩ := by
  unfold rdT at h ⊢
  split at h
  · rename_i h0
    rw [if_pos h0]
    obtain ⟨h1, h2, h3, h4, h5⟩ := rdR_form (rdU_place hs) h0
    obtain ⟨g1, g2, g3, g4⟩ := rdU_form hs h1
    refine ⟨g1, by rw [h2]; exact g2, by omega, ?_⟩
    rw [h5, g4, textU, List.append_assoc]
    have e1 : (⟨(rdR b (rdU b most s).1 (rdU b most s).2).1.toArray⟩ : ByteArray).size = (rdU b most s).1 := Eq.trans (by simp [ByteArray.size]) h2
    rw [e1]
  · rename_i h0
    exact absurd h h0
theorem rdT_place {b : List UInt8} {most : Nat} {s : RS} (hs : s.n ≤ b.length) : (rdT b most s).2.n ≤ b.length := by
  by_cases h : (rdT b most s).2.e = 0
  · exact (rdT_form hs h).2.2.1
  · unfold rdT at h ⊢
    split
    · rename_i h0; rw [if_pos h0] at h; exact absurd h0 h
    · exact hs
theorem rdT_len {b : List UInt8} {most : Nat} {s : RS} : (rdT b most s).1.length ≤ most := by
  unfold rdT
  split
  · exact Nat.le_trans rdR_len (rdU_le _ _ _)
  · simp
theorem rdB_place {b : List UInt8} {s : RS} (hs : s.n ≤ b.length) : (rdB b s).2.n ≤ b.length := rdR_place (k := 1) hs
/-- What stands there in its form is read. -/
theorem rdU_of {b t : List UInt8} {most n u : Nat} (hm : most < 18446744073709551616) (hb : b.drop n = uintU u ++ t) (hu : u ≤ most) : rdU b most ⟨n, 0⟩ = (u, ⟨n + (uintU u).length, 0⟩) := by
  have h := uscan_of most hm t u 0 0 (by omega) (by omega) (by simpa using hu)
  simp only [Nat.pow_zero, Nat.one_mul, Nat.zero_add] at h
  rw [rdU, if_pos rfl]
  show (if (uscan most (b.drop n) 0 0).1 = 0 then _ else _) = _
  rw [hb, h]
  rfl
theorem rdR_of {b t x : List UInt8} {n : Nat} (hb : b.drop n = x ++ t) : rdR b x.length ⟨n, 0⟩ = (x, ⟨n + x.length, 0⟩) := by
  have h1 : x.length ≤ b.length - n := by
    have := congrArg List.length hb
    rw [List.length_drop, List.length_append] at this; omega
  rw [rdR, if_pos rfl, if_neg (by show ¬ b.length - n < _; omega)]
  show ((b.drop n).take x.length, _) = _
  rw [hb, List.take_left]
theorem rdB_of {b t : List UInt8} {c : UInt8} {n : Nat} (hb : b.drop n = c :: t) : rdB b ⟨n, 0⟩ = (c, ⟨n + 1, 0⟩) := by
  have := rdR_of (x := [c]) (t := t) hb
  rw [rdB, show (1 : Nat) = [c].length from rfl, this]
  rfl
theorem drop_more {b x t : List UInt8} {n : Nat} (hb : b.drop n = x ++ t) : b.drop (n + x.length) = t := by
  rw [← List.drop_drop, hb, List.drop_left]
theorem rdT_of {b t : List UInt8} {v : ByteArray} {most n : Nat} (hm : most < 18446744073709551616) (hb : b.drop n = textU v ++ t) (hv : v.size ≤ most) : rdT b most ⟨n, 0⟩ = (v.data.toList, ⟨n + (textU v).length, 0⟩) := by
  rw [textU, List.append_assoc] at hb
  have h1 := rdU_of hm hb hv
  have h2 := rdR_of (drop_more hb)
  have e1 : v.data.toList.length = v.size := rfl
  rw [e1] at h2
  rw [rdT, h1]
  rw [h2, if_pos rfl]
  rw [textU, List.length_append, e1, Nat.add_assoc]
end Go.Proofs.Ytljfigikkajlnaa

namespace Go.Proofs.Ytljfigikkajlnaa
open Go.RowKit Go.Lib
set_option linter.unusedVariables false
set_option linter.unusedSimpArgs false

/-- A Reader in block g: the bytes b, the place and the error. -/
def Rdr (w : World) (g : Nat) (b : ByteArray) (s : RS) : Prop := GR.Blk w g 121 #[.string b, .int .i64 s.n, .int .i64 s.e] ∧ s.n ≤ b.data.toList.length
theorem Rdr.below {w w' : World} {g : Nat} {b : ByteArray} {s : RS} (h : Rdr w g b s) (hb : Below w.heap.size w w') : Rdr w' g b s := ⟨h.1.below hb h.1.lt, h.2⟩
theorem grown_set {w : World} {g : Nat} (i : Nat) (u : Value) : w.grownBy (w.setCell ⟨g, i, none⟩ u) (some g) :=
  ⟨rfl, rfl, rfl, by simp [World.setCell], fun k _ hk => Below.heap_setCell _ _ _ _ (by intro e; subst e; exact hk rfl)⟩
theorem grown_drewN {w w' : World} {r : Option Nat} (h : w.grownBy w' r) (n : Nat) : w.grownBy (w'.drewN n) r := ⟨h.os, h.tape, h.output, h.size, h.block⟩
theorem grown_trans {a b c : World} {r : Option Nat} (h : a.grownBy b r) (k : b.grownBy c r) : a.grownBy c r := GR.grown_step h k (.inl rfl)

theorem newReader_any (b : ByteArray) (w : World) :
    Calls Try.prog 40 #[.string b] w fun e w' => e = .returned (.pointer (some ⟨w.heap.size, 0, none⟩)) ∧ Rdr w' w.heap.size b ⟨0, 0⟩ ∧ Below w.heap.size w w' := by
  go_enter Try.func40, Try.ntmps40
  go_wp2
  go_ret
  exact ⟨rfl, ⟨GR.Blk.new _ _ _, Nat.zero_le _⟩, (Below.refl _ _).alloc (Nat.le_refl _) _⟩

theorem ext_str (b : ByteArray) (n k : Nat) : b.extract n (n + k) = ⟨((b.data.toList.drop n).take k).toArray⟩ := by
  apply ByteArray.ext
  apply Array.toList_inj.1
  simp [ByteArray.extract, ByteArray.copySlice, Array.toList_extract, List.extract]
theorem rtake_any (g : Nat) (b : ByteArray) (k : Nat) (s : RS) (w : World) (h : Rdr w g b s) (hb : b.size ≤ 140737488355328) (hk : k ≤ 140737488355328) :
    Calls Try.prog 91 #[.pointer (some ⟨g, 0, none⟩), .int .i64 k] w fun e w' => e = .returned (.tuple #[.string ⟨(rdR b.data.toList k s).1.toArray⟩, .bool (decide ((rdR b.data.toList k s).2.e = 0))]) ∧ Rdr w' g b (rdR b.data.toList k s).2 ∧ w.grownBy w' (some g) := by
  obtain ⟨n, er⟩ := s
  have c0 : w.cell? ⟨g, 0, none⟩ = some (.string b) := h.1.cell 0
  have c1 : w.cell? ⟨g, 1, none⟩ = some (.int .i64 n) := h.1.cell 1
  have c2 : w.cell? ⟨g, 2, none⟩ = some (.int .i64 er) := h.1.cell 2
  have f1 := h.1.frozen 1
  have f2 := h.1.frozen 2
  have H := Lib.hid h
  have hn : n ≤ b.size := h.2
  clear h
  by_cases he : er = 0
  · subst he
    by_cases hl : b.size - n < k
    · have HP : Hid (rdR b.data.toList k ⟨n, 0⟩ = ([], ⟨n, 10⟩)) := Lib.hid (by rw [rdR, if_pos rfl, if_pos (show b.data.toList.length - n < k from hl)])
      have l1 : decide ((b.size : Int) - (n : Int) < (k : Int)) = true := by simp; omega
      have l2 : IntKind.i64.wrap ((b.size : Int) - (n : Int)) = (b.size : Int) - (n : Int) := IntWalk.i64_in _ (by omega)
      clear hl
      go_enter Try.func91, Try.ntmps91
      go_wp2
      go_quiet (fail)
      go_wp2
      go_ret2
      rw [HP.out]
      exact ⟨rfl, ⟨(H.out.1.drewN _).set_ 2 _, H.out.2⟩, grown_trans (grown_drewN (grown_refl w _) _) (grown_set 2 _)⟩
    · have HP : Hid (rdR b.data.toList k ⟨n, 0⟩ = ((b.data.toList.drop n).take k, ⟨n + k, 0⟩)) := Lib.hid (by rw [rdR, if_pos rfl, if_neg (show ¬ b.data.toList.length - n < k from hl)])
      have l1 : decide ((b.size : Int) - (n : Int) < (k : Int)) = false := by simp; omega
      have l2 : IntKind.i64.wrap ((b.size : Int) - (n : Int)) = (b.size : Int) - (n : Int) := IntWalk.i64_in _ (by omega)
      have l3 : IntKind.i64.wrap ((n : Int) + (k : Int)) = (n : Int) + (k : Int) := IntWalk.i64_in _ (by omega)
      have l4 : (0 : Int) ≤ (n : Int) + (k : Int) := by omega
      have l5 : (n : Int) + (k : Int) ≤ (b.size : Int) := by omega
      have l6 : (n : Int) ≤ (n : Int) + (k : Int) := by omega
      have l7 : ((n : Int) + (k : Int)).toNat = n + k := by omega
      have HX := Lib.hid (ext_str b n k)
      clear hl
      go_enter Try.func91, Try.ntmps91
      go_wp2
      go_quiet (fail)
      go_wp2
      go_quiet (fail)
      go_wp2
      go_ret2
      rw [HP.out]
      exact ⟨by rw [HX.out]; rfl, ⟨by have := ((H.out.1.drewN 2).set_ 1 (.int .i64 ((n : Int) + (k : Int)))); exact this, by show n + k ≤ b.size; omega⟩, grown_trans (grown_drewN (grown_refl w _) _) (grown_set 1 _)⟩
  · have HP : Hid (rdR b.data.toList k ⟨n, er⟩ = ([], ⟨n, er⟩)) := Lib.hid (by rw [rdR, if_neg he])
    have e1 : decide (er = 0) = false := by simpa using he
    have e2 : (er != 0) = true := by simpa using he
    have HE := Lib.hid e1
    clear he
    go_enter Try.func91, Try.ntmps91
    go_wp2
    go_ret2
    rw [HP.out]
    exact ⟨by
      show _ = Ending.returned (.tuple #[.string ⟨#[]⟩, .bool (decide (er = 0))])
      rw [HE.out]
      rfl, H.out, grown_refl w _⟩

/-- The number of one byte, or of none. -/
theorem high_any (l : List UInt8) (x : UInt8) (hx : x = l.headD 0) (hl : l.length ≤ 1) (w : World) :
    Calls Try.prog 92 #[.string ⟨l.toArray⟩] w fun e w' => e = .returned (.int .u64 x.toNat) ∧ w = w' := by
  subst hx
  match l, hl with
  | [], _ =>
    go_enter Try.func92, Try.ntmps92
    go_wp2
    go_loopw [3, 7] (fun v i w' => v = .int .u64 0 ∧ i = .int .i64 0 ∧ w' = w) (fun _ _ _ => 0)
    case atStart => exact ⟨rfl, rfl, rfl⟩
    case round =>
      obtain ⟨rfl, rfl, rfl⟩ := hrel
      go_wp2
      go_ret
      exact ⟨rfl, rfl⟩
  | [c], _ =>
    have hc := c.toNat_lt
    have e1 : bits .or .u64 0 (c.toNat : Int) = (c.toNat : Int) := by
      have := bits_or_u64_nat 0 c.toNat (by omega) (by omega)
      simpa using this
    go_enter Try.func92, Try.ntmps92
    go_wp2
    go_loopw [3, 7] (fun v i w' => ∃ k : Nat, k ≤ 1 ∧ i = .int .i64 k ∧ v = .int .u64 (if k = 0 then 0 else (c.toNat : Int)) ∧ w' = w) (fun _ i _ => 1 - (intOf i).toNat)
    case atStart => exact ⟨0, by omega, rfl, rfl, rfl⟩
    case round =>
      obtain ⟨k, hk, rfl, rfl, rfl⟩ := hrel
      by_cases h0 : k = 0
      · subst h0
        go_wp2
        go_roundw
        case rel => exact ⟨1, by omega, rfl, by
          show Value.int .u64 (bits .or .u64 0 (IntKind.u64.wrap (c.toNat : Int))) = Value.int .u64 (c.toNat : Int)
          rw [IntWalk.u64_in _ (by omega), e1], by first | rfl | trivial⟩
        case measure => simp [intOf]
      · obtain rfl : k = 1 := by omega
        go_wp2
        go_ret
        exact ⟨rfl, rfl⟩
theorem rbyte_any (g : Nat) (b : ByteArray) (s : RS) (w : World) (h : Rdr w g b s) (hb : b.size ≤ 140737488355328) :
    Calls Try.prog 95 #[.pointer (some ⟨g, 0, none⟩)] w fun e w' => e = .returned (.int .u8 (rdB b.data.toList s).1.toNat) ∧ Rdr w' g b (rdB b.data.toList s).2 ∧ w.grownBy w' (some g) := by
  have HL := rdR_len (b := b.data.toList) (k := 1) (s := s)
  have H := Lib.hid h
  obtain ⟨c, hc⟩ : ∃ c : UInt8, c = (rdR b.data.toList 1 s).1.headD 0 := ⟨_, rfl⟩
  have HC := Lib.hid hc
  have h256 := c.toNat_lt
  have e1 : IntKind.u8.wrap (c.toNat : Int) = c.toNat := IntWalk.u8_in _ (by omega)
  clear hc
  clear h
  go_enter Try.func95, Try.ntmps95
  go_wp2_with fail
  refine (rtake_any g b 1 s _ H.out hb (by omega)).mono ?_
  rintro e w1 ⟨rfl, h1, g1⟩
  have H1 := Lib.hid h1
  have G1 := Lib.hid g1
  clear h1 g1
  go_wp2_with fail
  refine (high_any _ c HC.out HL _).mono ?_
  rintro e w2 ⟨rfl, rfl⟩
  go_wp2
  go_ret
  exact ⟨by
    show _ = Ending.returned (.int .u8 ((rdR b.data.toList 1 s).1.headD 0).toNat)
    rw [← HC.out]
    rfl, H1.out, G1.out⟩
theorem or_shl (v i x : Nat) (hi : i ≤ 9) (hv : v < 128 ^ i) (hx : x < 128) (h9 : i = 9 → x ≤ 1) : v ||| (x <<< (7 * i)) = v + x * 128 ^ i ∧ v + x * 128 ^ i < 18446744073709551616 ∧ x <<< (7 * i) = x * 128 ^ i ∧ x * 128 ^ i < 18446744073709551616 := by
  have e0 : 128 ^ i = 2 ^ (7 * i) := by rw [Nat.pow_mul]
  have e1 : x <<< (7 * i) = x * 128 ^ i := by rw [Nat.shiftLeft_eq, e0]
  have e2 : v + x * 128 ^ i < 18446744073709551616 := by
    by_cases h : i = 9
    · subst h
      have := h9 rfl
      rw [pow_9] at hv ⊢
      omega
    · have h1 : 128 ^ i ≤ 128 ^ 8 := Nat.pow_le_pow_right (by omega) (by omega)
      have h2 : 128 ^ 8 = 72057594037927936 := by decide
      have h3 : x * 128 ^ i ≤ 127 * 128 ^ i := Nat.mul_le_mul_right _ (by omega)
      omega
  refine ⟨?_, e2, e1, by omega⟩
  rw [Nat.or_comm, ← Nat.shiftLeft_add_eq_or_of_lt (by rw [← e0]; exact hv), e1, Nat.add_comm]
theorem or_shl_int (v i x : Nat) (hi : i ≤ 9) (hv : v < 128 ^ i) (h9 : i = 9 → x % 128 ≤ 1) (V : Nat) (hV : V = v + x % 128 * 128 ^ i) : bits .or .u64 (v : Int) (IntKind.u64.wrap ((x : Int) % 128 * 2 ^ (7 * i))) = (V : Int) := by
  obtain ⟨e1, e2, e3, e4⟩ := or_shl v i (x % 128) hi hv (by omega) h9
  have e5 : (x : Int) % 128 * 2 ^ (7 * i) = ((x % 128 * 128 ^ i : Nat) : Int) := by
    rw [show (128 : Nat) ^ i = 2 ^ (7 * i) by rw [Nat.pow_mul]]
    push_cast
    rfl
  rw [e5, IntWalk.u64_in _ (by omega), bits_or_u64_nat v _ (by omega) e4, hV, ← e1, e3]
theorem shl_lt (v i x : Nat) (hv : v < 128 ^ i) (hx : x < 128) : v + x * 128 ^ i < 128 ^ (i + 1) := by
  have : x * 128 ^ i ≤ 127 * 128 ^ i := Nat.mul_le_mul_right _ (by omega)
  rw [Nat.pow_succ]
  omega
theorem uscan_step {B : List UInt8} {most j i v : Nat} (h : j < B.length) : uscan most (B.drop j) i v =
    if i = 9 ∧ 1 < B[j].toNat then (11, 0, 0) else if 128 ≤ B[j].toNat then uscan most (B.drop (j + 1)) (i + 1) (v + B[j].toNat % 128 * 128 ^ i)
    else if (B[j].toNat = 0 ∧ 0 < i) ∨ most < v + B[j].toNat % 128 * 128 ^ i then (11, 0, 0) else (0, v + B[j].toNat % 128 * 128 ^ i, i + 1) := by
  rw [List.drop_eq_getElem_cons h, uscan]

set_option maxRecDepth 100000 in
set_option maxHeartbeats 3200000 in
theorem runint_any (g : Nat) (b : ByteArray) (most : Nat) (s : RS) (w : World) (h : Rdr w g b s) (hb : b.size ≤ 140737488355328) (hm : most < 18446744073709551616) :
    Calls Try.prog 94 #[.pointer (some ⟨g, 0, none⟩), .int .u64 most] w fun e w' => e = .returned (.int .u64 (rdU b.data.toList most s).1) ∧ Rdr w' g b (rdU b.data.toList most s).2 ∧ w.grownBy w' (some g) := by
  obtain ⟨n, er⟩ := s
  have c0 : w.cell? ⟨g, 0, none⟩ = some (.string b) := h.1.cell 0
  have c1 : w.cell? ⟨g, 1, none⟩ = some (.int .i64 n) := h.1.cell 1
  have c2 : w.cell? ⟨g, 2, none⟩ = some (.int .i64 er) := h.1.cell 2
  have H := Lib.hid h
  have hn : n ≤ b.size := h.2
  by_cases he : er = 0
  · subst he
    have HP : Hid (rdU b.data.toList most ⟨n, 0⟩ = if (uscan most (b.data.toList.drop n) 0 0).1 = 0 then ((uscan most (b.data.toList.drop n) 0 0).2.1, ⟨n + (uscan most (b.data.toList.drop n) 0 0).2.2, 0⟩) else (0, ⟨n, (uscan most (b.data.toList.drop n) 0 0).1⟩)) := Lib.hid (by rw [rdU, if_pos rfl])
    have BND := rdU_place (b := b.data.toList) (most := most) (s := ⟨n, 0⟩) h.2
    have HBN := Lib.hid BND
    have hf2 := h.1.frozen 2
    clear h BND
    go_enter Try.func94, Try.ntmps94
    go_wp2
    go_loopw [5, 17] (fun vv ii w' => ∃ i v m : Nat, ii = .int .i64 i ∧ vv = .int .u64 v ∧ i ≤ 9 ∧ Hid (v < 128 ^ i) ∧ n + i ≤ b.size ∧ Hid (uscan most (b.data.toList.drop n) 0 0 = uscan most (b.data.toList.drop (n + i)) i v) ∧ w' = w.drewN m) (fun _ ii _ => 10 - (intOf ii).toNat)
    case atStart => exact ⟨0, 0, 0, rfl, rfl, by omega, Lib.hid (by decide), by omega, Lib.hid rfl, rfl⟩
    case round =>
      obtain ⟨i, v, m, rfl, rfl, hi, hv, hni, hU, rfl⟩ := hrel
      have l1 : IntKind.i64.wrap ((n : Int) + (i : Int)) = (n : Int) + (i : Int) := IntWalk.i64_in _ (by omega)
      by_cases hl : n + i < b.size
      · have l2 : decide ((b.size : Int) ≤ (n : Int) + (i : Int)) = false := by simp; omega
        have l3 : (0 : Int) ≤ (n : Int) + (i : Int) := by omega
        have l4 : (n : Int) + (i : Int) < (b.size : Int) := by omega
        have l5 : ((n : Int) + (i : Int)).toNat = n + i := by omega
        have HS := Lib.hid (uscan_step (most := most) (i := i) (v := v) (show n + i < b.data.toList.length from hl))
        obtain ⟨c, hc⟩ : ∃ c : UInt8, c = b.data.toList[n + i]'hl := ⟨_, rfl⟩
        have hx : b[n + i] = c := hc.symm
        have h256 := c.toNat_lt
        have e2 : bits .and .u8 (c.toNat : Int) 127 = ((c.toNat % 128 : Nat) : Int) := by
          have h9 : ∀ y : Fin 256, bits .and .u8 ((y.val : Nat) : Int) 127 = ((y.val % 128 : Nat) : Int) := by decide +kernel
          exact h9 ⟨c.toNat, by omega⟩
        have e3 : IntKind.u64.wrap ((c.toNat % 128 : Nat) : Int) = ((c.toNat % 128 : Nat) : Int) := IntWalk.u64_in _ (by omega)
        have e4 : IntKind.i64.wrap (7 * (i : Int)) = 7 * (i : Int) := IntWalk.i64_in _ (by omega)
        have hS := HS.out
        rw [← hc] at hS
        clear HS hc
        have HS := Lib.hid hS
        clear hS
        by_cases h9 : i = 9
        · have b1 : decide ((i : Int) = 9) = true := by first | (simp; done) | (simp; omega) | omega
          have b2 : decide (i = 9) = true := by first | (simp; done) | (simp; omega) | omega
          have b3 : ((i : Int) == 9) = true := by first | (simp; done) | (simp; omega) | omega
          have b4 : (i == 9) = true := by first | (simp; done) | (simp; omega) | omega
          by_cases h1 : 1 < c.toNat
          · have b5 : decide ((1 : Int) < (c.toNat : Int)) = true := by first | (simp; done) | (simp; omega) | omega
            have b6 : decide (1 < c.toNat) = true := by first | (simp; done) | (simp; omega) | omega
            have HD : Hid (uscan most (b.data.toList.drop n) 0 0 = (11, 0, 0)) := Lib.hid (by rw [hU.out, HS.out, if_pos ⟨h9, h1⟩])
            have HQ : Hid (rdU b.data.toList most ⟨n, 0⟩ = (0, ⟨n, 11⟩)) := Lib.hid (by rw [HP.out, HD.out]; rfl)
            try clear h9
            try clear hc0
            go_wp2
            go_quiet (fail)
            go_wp2
            go_quiet (fail)
            go_wp2
            go_ret
            rw [HQ.out]
            exact ⟨rfl, ⟨by exact (H.out.1.drewN _).set_ 2 _, H.out.2⟩, grown_trans (grown_drewN (grown_refl w _) _) (grown_set 2 _)⟩
          · have b7 : decide ((1 : Int) < (c.toNat : Int)) = false := by first | (simp; done) | (simp; omega) | omega
            have b8 : decide (1 < c.toNat) = false := by first | (simp; done) | (simp; omega) | omega
            have OS := or_shl v i (c.toNat % 128) hi hv.out (by omega) (fun _ => by omega)
            have OV := Lib.hid OS.2.1
            obtain ⟨V, hV⟩ : ∃ V : Nat, V = v + c.toNat % 128 * 128 ^ i := ⟨_, rfl⟩
            have e5 : bits .or .u64 (v : Int) (IntKind.u64.wrap ((c.toNat : Int) % 128 * 2 ^ (7 * i))) = (V : Int) := or_shl_int v i c.toNat hi hv.out (by omega) V hV
            have HV := Lib.hid hV
            clear OS hV
            have b9 : decide ((128 : Int) ≤ (c.toNat : Int)) = false := by first | (simp; done) | (simp; omega) | omega
            have b10 : decide (128 ≤ c.toNat) = false := by first | (simp; done) | (simp; omega) | omega
            by_cases hc0 : c.toNat = 0
            · have b11 : decide ((c.toNat : Int) = 0) = true := by first | (simp; done) | (simp; omega) | omega
              have b12 : decide (c.toNat = 0) = true := by first | (simp; done) | (simp; omega) | omega
              have b13 : ((c.toNat : Int) == 0) = true := by first | (simp; done) | (simp; omega) | omega
              have b14 : (c.toNat == 0) = true := by first | (simp; done) | (simp; omega) | omega
              by_cases hi0 : 0 < i
              · have b15 : decide ((0 : Int) < (i : Int)) = true := by first | (simp; done) | (simp; omega) | omega
                have b16 : decide (0 < i) = true := by first | (simp; done) | (simp; omega) | omega
                have HD : Hid (uscan most (b.data.toList.drop n) 0 0 = (11, 0, 0)) := Lib.hid (by rw [hU.out, HS.out, if_neg (by omega), if_neg (by omega), if_pos (.inl ⟨hc0, hi0⟩)])
                have HQ : Hid (rdU b.data.toList most ⟨n, 0⟩ = (0, ⟨n, 11⟩)) := Lib.hid (by rw [HP.out, HD.out]; rfl)
                try clear h9
                try clear hc0
                go_wp2
                go_quiet (fail)
                go_wp2
                go_quiet (fail)
                go_wp2
                go_ret
                rw [HQ.out]
                exact ⟨rfl, ⟨by exact (H.out.1.drewN _).set_ 2 _, H.out.2⟩, grown_trans (grown_drewN (grown_refl w _) _) (grown_set 2 _)⟩
              · omega
            · have b17 : decide ((c.toNat : Int) = 0) = false := by first | (simp; done) | (simp; omega) | omega
              have b18 : decide (c.toNat = 0) = false := by first | (simp; done) | (simp; omega) | omega
              have b19 : ((c.toNat : Int) == 0) = false := by first | (simp; done) | (simp; omega) | omega
              have b20 : (c.toNat == 0) = false := by first | (simp; done) | (simp; omega) | omega
              by_cases hm2 : most < V
              · have b21 : decide ((most : Int) < (V : Int)) = true := by first | (simp; done) | (simp; omega) | omega
                have b22 : decide (most < V) = true := by first | (simp; done) | (simp; omega) | omega
                have HD : Hid (uscan most (b.data.toList.drop n) 0 0 = (11, 0, 0)) := Lib.hid (by rw [hU.out, HS.out, if_neg (by omega), if_neg (by omega), if_pos (.inr (by rw [← HV.out]; exact hm2))])
                have HQ : Hid (rdU b.data.toList most ⟨n, 0⟩ = (0, ⟨n, 11⟩)) := Lib.hid (by rw [HP.out, HD.out]; rfl)
                try clear h9
                try clear hc0
                go_wp2
                go_quiet (fail)
                go_wp2
                go_quiet (fail)
                go_wp2
                go_ret
                rw [HQ.out]
                exact ⟨rfl, ⟨by exact (H.out.1.drewN _).set_ 2 _, H.out.2⟩, grown_trans (grown_drewN (grown_refl w _) _) (grown_set 2 _)⟩
              · have b23 : decide ((most : Int) < (V : Int)) = false := by first | (simp; done) | (simp; omega) | omega
                have b24 : decide (most < V) = false := by first | (simp; done) | (simp; omega) | omega
                have HD : Hid (uscan most (b.data.toList.drop n) 0 0 = (0, V, i + 1)) := Lib.hid (by rw [hU.out, HS.out, if_neg (by omega), if_neg (by omega), if_neg (by rw [← HV.out]; omega), ← HV.out])
                have HQ : Hid (rdU b.data.toList most ⟨n, 0⟩ = (V, ⟨n + (i + 1), 0⟩)) := Lib.hid (by rw [HP.out, HD.out]; rfl)
                have l6 : IntKind.i64.wrap ((i : Int) + 1) = (i : Int) + 1 := IntWalk.i64_in _ (by omega)
                have l7 : IntKind.i64.wrap ((n : Int) + ((i : Int) + 1)) = (n : Int) + ((i : Int) + 1) := IntWalk.i64_in _ (by omega)
                have hf1 := H.out.1.frozen 1
                try clear h9
                try clear hc0
                go_wp2
                go_quiet (fail)
                go_wp2
                go_quiet (fail)
                go_wp2
                go_ret
                rw [HQ.out]
                exact ⟨rfl, ⟨by exact (H.out.1.drewN _).set_ 1 _, by show n + (i + 1) ≤ b.size; omega⟩, grown_trans (grown_drewN (grown_refl w _) _) (grown_set 1 _)⟩
        · have b25 : decide ((i : Int) = 9) = false := by first | (simp; done) | (simp; omega) | omega
          have b26 : decide (i = 9) = false := by first | (simp; done) | (simp; omega) | omega
          have b27 : ((i : Int) == 9) = false := by first | (simp; done) | (simp; omega) | omega
          have b28 : (i == 9) = false := by first | (simp; done) | (simp; omega) | omega
          have OS := or_shl v i (c.toNat % 128) hi hv.out (by omega) (fun _ => by omega)
          have OV := Lib.hid OS.2.1
          obtain ⟨V, hV⟩ : ∃ V : Nat, V = v + c.toNat % 128 * 128 ^ i := ⟨_, rfl⟩
          have e5 : bits .or .u64 (v : Int) (IntKind.u64.wrap ((c.toNat : Int) % 128 * 2 ^ (7 * i))) = (V : Int) := or_shl_int v i c.toNat hi hv.out (by omega) V hV
          have HV := Lib.hid hV
          clear OS hV
          by_cases h128 : 128 ≤ c.toNat
          · have b29 : decide ((128 : Int) ≤ (c.toNat : Int)) = true := by first | (simp; done) | (simp; omega) | omega
            have b30 : decide (128 ≤ c.toNat) = true := by first | (simp; done) | (simp; omega) | omega
            have HD : Hid (uscan most (b.data.toList.drop n) 0 0 = uscan most (b.data.toList.drop (n + i + 1)) (i + 1) V) := Lib.hid (by rw [hU.out, HS.out, if_neg (by omega), if_pos h128, ← HV.out])
            have hi9 : i + 1 ≤ 9 := by omega
            have HVB : Hid (V < 128 ^ (i + 1)) := Lib.hid (by rw [HV.out]; exact shl_lt v i _ hv.out (by omega))
            try clear h9
            try clear hc0
            go_wp2
            go_quiet (fail)
            go_wp2
            go_quiet (fail)
            go_wp2
            go_roundw
            case rel => exact ⟨i + 1, V, _, by go_num, rfl, hi9, HVB, by omega, HD, rfl⟩
            case measure => simp [intOf]; omega
          · have b31 : decide ((128 : Int) ≤ (c.toNat : Int)) = false := by first | (simp; done) | (simp; omega) | omega
            have b32 : decide (128 ≤ c.toNat) = false := by first | (simp; done) | (simp; omega) | omega
            by_cases hc0 : c.toNat = 0
            · have b33 : decide ((c.toNat : Int) = 0) = true := by first | (simp; done) | (simp; omega) | omega
              have b34 : decide (c.toNat = 0) = true := by first | (simp; done) | (simp; omega) | omega
              have b35 : ((c.toNat : Int) == 0) = true := by first | (simp; done) | (simp; omega) | omega
              have b36 : (c.toNat == 0) = true := by first | (simp; done) | (simp; omega) | omega
              by_cases hi0 : 0 < i
              · have b37 : decide ((0 : Int) < (i : Int)) = true := by first | (simp; done) | (simp; omega) | omega
                have b38 : decide (0 < i) = true := by first | (simp; done) | (simp; omega) | omega
                have HD : Hid (uscan most (b.data.toList.drop n) 0 0 = (11, 0, 0)) := Lib.hid (by rw [hU.out, HS.out, if_neg (by omega), if_neg (by omega), if_pos (.inl ⟨hc0, hi0⟩)])
                have HQ : Hid (rdU b.data.toList most ⟨n, 0⟩ = (0, ⟨n, 11⟩)) := Lib.hid (by rw [HP.out, HD.out]; rfl)
                try clear h9
                try clear hc0
                go_wp2
                go_quiet (fail)
                go_wp2
                go_quiet (fail)
                go_wp2
                go_ret
                rw [HQ.out]
                exact ⟨rfl, ⟨by exact (H.out.1.drewN _).set_ 2 _, H.out.2⟩, grown_trans (grown_drewN (grown_refl w _) _) (grown_set 2 _)⟩
              · have b39 : decide ((0 : Int) < (i : Int)) = false := by first | (simp; done) | (simp; omega) | omega
                have b40 : decide (0 < i) = false := by first | (simp; done) | (simp; omega) | omega
                by_cases hm2 : most < V
                · have b41 : decide ((most : Int) < (V : Int)) = true := by first | (simp; done) | (simp; omega) | omega
                  have b42 : decide (most < V) = true := by first | (simp; done) | (simp; omega) | omega
                  have HD : Hid (uscan most (b.data.toList.drop n) 0 0 = (11, 0, 0)) := Lib.hid (by rw [hU.out, HS.out, if_neg (by omega), if_neg (by omega), if_pos (.inr (by rw [← HV.out]; exact hm2))])
                  have HQ : Hid (rdU b.data.toList most ⟨n, 0⟩ = (0, ⟨n, 11⟩)) := Lib.hid (by rw [HP.out, HD.out]; rfl)
                  try clear h9
                  try clear hc0
                  go_wp2
                  go_quiet (fail)
                  go_wp2
                  go_quiet (fail)
                  go_wp2
                  go_ret
                  rw [HQ.out]
                  exact ⟨rfl, ⟨by exact (H.out.1.drewN _).set_ 2 _, H.out.2⟩, grown_trans (grown_drewN (grown_refl w _) _) (grown_set 2 _)⟩
                · have b43 : decide ((most : Int) < (V : Int)) = false := by first | (simp; done) | (simp; omega) | omega
                  have b44 : decide (most < V) = false := by first | (simp; done) | (simp; omega) | omega
                  have HD : Hid (uscan most (b.data.toList.drop n) 0 0 = (0, V, i + 1)) := Lib.hid (by rw [hU.out, HS.out, if_neg (by omega), if_neg (by omega), if_neg (by rw [← HV.out]; omega), ← HV.out])
                  have HQ : Hid (rdU b.data.toList most ⟨n, 0⟩ = (V, ⟨n + (i + 1), 0⟩)) := Lib.hid (by rw [HP.out, HD.out]; rfl)
                  have l6 : IntKind.i64.wrap ((i : Int) + 1) = (i : Int) + 1 := IntWalk.i64_in _ (by omega)
                  have l7 : IntKind.i64.wrap ((n : Int) + ((i : Int) + 1)) = (n : Int) + ((i : Int) + 1) := IntWalk.i64_in _ (by omega)
                  have hf1 := H.out.1.frozen 1
                  try clear h9
                  try clear hc0
                  go_wp2
                  go_quiet (fail)
                  go_wp2
                  go_quiet (fail)
                  go_wp2
                  go_ret
                  rw [HQ.out]
                  exact ⟨rfl, ⟨by exact (H.out.1.drewN _).set_ 1 _, by show n + (i + 1) ≤ b.size; omega⟩, grown_trans (grown_drewN (grown_refl w _) _) (grown_set 1 _)⟩
            · have b45 : decide ((c.toNat : Int) = 0) = false := by first | (simp; done) | (simp; omega) | omega
              have b46 : decide (c.toNat = 0) = false := by first | (simp; done) | (simp; omega) | omega
              have b47 : ((c.toNat : Int) == 0) = false := by first | (simp; done) | (simp; omega) | omega
              have b48 : (c.toNat == 0) = false := by first | (simp; done) | (simp; omega) | omega
              by_cases hm2 : most < V
              · have b49 : decide ((most : Int) < (V : Int)) = true := by first | (simp; done) | (simp; omega) | omega
                have b50 : decide (most < V) = true := by first | (simp; done) | (simp; omega) | omega
                have HD : Hid (uscan most (b.data.toList.drop n) 0 0 = (11, 0, 0)) := Lib.hid (by rw [hU.out, HS.out, if_neg (by omega), if_neg (by omega), if_pos (.inr (by rw [← HV.out]; exact hm2))])
                have HQ : Hid (rdU b.data.toList most ⟨n, 0⟩ = (0, ⟨n, 11⟩)) := Lib.hid (by rw [HP.out, HD.out]; rfl)
                try clear h9
                try clear hc0
                go_wp2
                go_quiet (fail)
                go_wp2
                go_quiet (fail)
                go_wp2
                go_ret
                rw [HQ.out]
                exact ⟨rfl, ⟨by exact (H.out.1.drewN _).set_ 2 _, H.out.2⟩, grown_trans (grown_drewN (grown_refl w _) _) (grown_set 2 _)⟩
              · have b51 : decide ((most : Int) < (V : Int)) = false := by first | (simp; done) | (simp; omega) | omega
                have b52 : decide (most < V) = false := by first | (simp; done) | (simp; omega) | omega
                have HD : Hid (uscan most (b.data.toList.drop n) 0 0 = (0, V, i + 1)) := Lib.hid (by rw [hU.out, HS.out, if_neg (by omega), if_neg (by omega), if_neg (by rw [← HV.out]; omega), ← HV.out])
                have HQ : Hid (rdU b.data.toList most ⟨n, 0⟩ = (V, ⟨n + (i + 1), 0⟩)) := Lib.hid (by rw [HP.out, HD.out]; rfl)
                have l6 : IntKind.i64.wrap ((i : Int) + 1) = (i : Int) + 1 := IntWalk.i64_in _ (by omega)
                have l7 : IntKind.i64.wrap ((n : Int) + ((i : Int) + 1)) = (n : Int) + ((i : Int) + 1) := IntWalk.i64_in _ (by omega)
                have hf1 := H.out.1.frozen 1
                try clear h9
                try clear hc0
                go_wp2
                go_quiet (fail)
                go_wp2
                go_quiet (fail)
                go_wp2
                go_ret
                rw [HQ.out]
                exact ⟨rfl, ⟨by exact (H.out.1.drewN _).set_ 1 _, by show n + (i + 1) ≤ b.size; omega⟩, grown_trans (grown_drewN (grown_refl w _) _) (grown_set 1 _)⟩
      · have l2 : decide ((b.size : Int) ≤ (n : Int) + (i : Int)) = true := by simp; omega
        have HD : Hid (uscan most (b.data.toList.drop n) 0 0 = (10, 0, 0)) := Lib.hid (by rw [hU.out, List.drop_eq_nil_of_le (by show b.size ≤ _; omega), uscan])
        clear hl
        go_wp2
        go_quiet (fail)
        go_wp2
        have HQ : Hid (rdU b.data.toList most ⟨n, 0⟩ = (0, ⟨n, 10⟩)) := Lib.hid (by rw [HP.out, HD.out]; rfl)
        go_ret
        rw [HQ.out]
        exact ⟨rfl, ⟨by have := (H.out.1.drewN (m + 1)).set_ 2 (.int .i64 10); exact this, H.out.2⟩, grown_trans (grown_drewN (grown_refl w _) _) (grown_set 2 _)⟩
  · have HP : Hid (rdU b.data.toList most ⟨n, er⟩ = (0, ⟨n, er⟩)) := Lib.hid (by rw [rdU, if_neg he])
    have e1 : decide (er = 0) = false := by simpa using he
    have e2 : (er != 0) = true := by simpa using he
    clear he h
    go_enter Try.func94, Try.ntmps94
    go_wp2
    go_ret
    rw [HP.out]
    exact ⟨rfl, H.out, grown_refl w _⟩

theorem rtext_any (g : Nat) (b : ByteArray) (most : Nat) (s : RS) (w : World) (h : Rdr w g b s) (hb : b.size ≤ 140737488355328) (hm : most ≤ 140737488355328) :
    Calls Try.prog 96 #[.pointer (some ⟨g, 0, none⟩), .int .i64 most] w fun e w' => e = .returned (.string ⟨(rdT b.data.toList most s).1.toArray⟩) ∧ Rdr w' g b (rdT b.data.toList most s).2 ∧ w.grownBy w' (some g) := by
  have c1 : w.cell? ⟨g, 1, none⟩ = some (.int .i64 s.n) := h.1.cell 1
  have H := Lib.hid h
  have hn : s.n ≤ b.size := h.2
  have e1 : IntKind.u64.wrap (most : Int) = (most : Int) := IntWalk.u64_in _ (by omega)
  have hle := rdU_le b.data.toList most s
  have e2 : IntKind.i64.wrap ((rdU b.data.toList most s).1 : Int) = ((rdU b.data.toList most s).1 : Int) := IntWalk.i64_in _ (by omega)
  have e3 : decide ((most : Int) < 0) = false := by simp
  clear h
  go_enter Try.func96, Try.ntmps96
  go_wp2_with fail
  refine (runint_any g b most s _ H.out hb (by omega)).mono ?_
  rintro e w1 ⟨rfl, h1, g1⟩
  have H1 := Lib.hid h1
  have G1 := Lib.hid g1
  clear h1 g1 c1
  go_wp2_with fail
  refine (rtake_any g b _ _ _ H1.out hb (by omega)).mono ?_
  rintro e w2 ⟨rfl, h2, g2⟩
  have H2 := Lib.hid h2
  have G2 := Lib.hid (grown_trans G1.out g2)
  have d1 : w2.cell? ⟨g, 1, none⟩ = some (.int .i64 (rdR b.data.toList (rdU b.data.toList most s).1 (rdU b.data.toList most s).2).2.n) := h2.1.cell 1
  have d2 := h2.1.frozen 1
  clear h2 g2
  by_cases h0 : (rdR b.data.toList (rdU b.data.toList most s).1 (rdU b.data.toList most s).2).2.e = 0
  · have HP : Hid (rdT b.data.toList most s = rdR b.data.toList (rdU b.data.toList most s).1 (rdU b.data.toList most s).2) := Lib.hid (by rw [rdT, if_pos h0])
    rw [decide_eq_true h0]
    clear h0
    go_wp2
    go_ret
    rw [HP.out]
    exact ⟨rfl, H2.out, G2.out⟩
  · have HP : Hid (rdT b.data.toList most s = ([], ⟨s.n, (rdR b.data.toList (rdU b.data.toList most s).1 (rdU b.data.toList most s).2).2.e⟩)) := Lib.hid (by rw [rdT, if_neg h0])
    have HN : Hid ((rdR b.data.toList (rdU b.data.toList most s).1 (rdU b.data.toList most s).2).1 = []) := Lib.hid (by
      unfold rdR at h0 ⊢
      split
      · rename_i h1
        split
        · rfl
        · rename_i h2; rw [if_pos h1, if_neg h2] at h0; exact absurd rfl h0
      · rfl)
    rw [decide_eq_false h0, HN.out]
    clear h0
    go_wp2
    go_ret
    rw [HP.out]
    exact ⟨rfl, ⟨by exact H2.out.1.set_ 1 _, hn⟩, grown_trans G2.out (grown_set 1 _)⟩
theorem rerr_any (g : Nat) (b : ByteArray) (s : RS) (w : World) (h : Rdr w g b s) :
    Calls Try.prog 45 #[.pointer (some ⟨g, 0, none⟩)] w fun e w' => e = .returned (.int .i64 s.e) ∧ w = w' := by
  have c2 : w.cell? ⟨g, 2, none⟩ = some (.int .i64 s.e) := h.1.cell 2
  clear h
  go_enter Try.func45, Try.ntmps45
  go_wp2
  go_ret
  exact ⟨rfl, rfl⟩
theorem rfail_any (g : Nat) (b : ByteArray) (s : RS) (x : Int) (w : World) (h : Rdr w g b s) (he : s.e = 0) :
    Calls Try.prog 90 #[.pointer (some ⟨g, 0, none⟩), .int .i64 x] w fun e w' => e = .returned (.tuple #[]) ∧ Rdr w' g b ⟨s.n, x⟩ ∧ w.grownBy w' (some g) := by
  have c2 : w.cell? ⟨g, 2, none⟩ = some (.int .i64 0) := by rw [← he]; exact h.1.cell 2
  have d2 := h.1.frozen 2
  have H := Lib.hid h
  clear h he
  go_enter Try.func90, Try.ntmps90
  go_wp2
  go_end0
  exact ⟨rfl, ⟨by exact H.out.1.set_ 2 _, H.out.2⟩, grown_set 2 _⟩
def endP (b : List UInt8) (s : RS) : Int := if s.e = 0 ∧ s.n < b.length then 12 else s.e
theorem rend_any (g : Nat) (b : ByteArray) (s : RS) (w : World) (h : Rdr w g b s) :
    Calls Try.prog 97 #[.pointer (some ⟨g, 0, none⟩)] w fun e w' => e = .returned (.int .i64 (endP b.data.toList s)) ∧ Drawn w w' := by
  obtain ⟨n, er⟩ := s
  have c0 : w.cell? ⟨g, 0, none⟩ = some (.string b) := h.1.cell 0
  have c1 : w.cell? ⟨g, 1, none⟩ = some (.int .i64 n) := h.1.cell 1
  have c2 : w.cell? ⟨g, 2, none⟩ = some (.int .i64 er) := h.1.cell 2
  have H := Lib.hid h
  have hn : n ≤ b.size := h.2
  clear h
  by_cases he : er = 0
  · by_cases hl : n < b.size
    · have HP : Hid (endP b.data.toList ⟨n, er⟩ = 12) := Lib.hid (by rw [endP, if_pos ⟨he, hl⟩])
      subst he
      have l1 : decide ((n : Int) < (b.size : Int)) = true := by simp; omega
      have l2 : decide (n < b.size) = true := by simp; omega
      go_enter Try.func97, Try.ntmps97
      go_wp2
      go_quiet (fail)
      go_wp2
      go_ret
      exact ⟨by rw [HP.out]; rfl, ⟨_, rfl⟩⟩
    · have HP : Hid (endP b.data.toList ⟨n, er⟩ = 0) := Lib.hid (by rw [endP, if_neg (fun h => hl h.2)]; exact he)
      subst he
      have l1 : decide ((n : Int) < (b.size : Int)) = false := by simp; omega
      have l2 : decide (n < b.size) = false := by simp; omega
      go_enter Try.func97, Try.ntmps97
      go_wp2
      go_quiet (fail)
      go_wp2_with fail
      refine (rerr_any g b ⟨n, 0⟩ _ ⟨H.out.1.drewN _, H.out.2⟩).mono ?_
      rintro e w1 ⟨rfl, rfl⟩
      go_wp2
      go_ret
      exact ⟨by rw [HP.out]; rfl, ⟨_, rfl⟩⟩
  · have HP : Hid (endP b.data.toList ⟨n, er⟩ = er) := Lib.hid (by rw [endP, if_neg (fun h => he h.1)])
    have e1 : decide (er = 0) = false := by simpa using he
    have e2 : (er == 0) = false := by simpa using he
    clear he
    go_enter Try.func97, Try.ntmps97
    go_wp2
    go_quiet (fail)
    go_wp2_with fail
    refine (rerr_any g b ⟨n, er⟩ _ ⟨H.out.1.drewN _, H.out.2⟩).mono ?_
    rintro e w1 ⟨rfl, rfl⟩
    go_wp2
    go_ret
    exact ⟨by rw [HP.out]; rfl, ⟨_, rfl⟩⟩
end Go.Proofs.Ytljfigikkajlnaa

namespace Go.Proofs.Ytljfigikkajlnaa
open Go.RowKit Go.Lib
set_option linter.unusedVariables false
set_option linter.unusedSimpArgs false

def n2 : List UInt8 → Nat
  | [x, y] => x.toNat * 256 + y.toNat
  | _ => 0
theorem or256 (x y : UInt8) : bits .or .u64 ((x.toNat : Int) * 256) (y.toNat : Int) = ((x.toNat * 256 + y.toNat : Nat) : Int) := by
  have hx := x.toNat_lt
  have hy := y.toNat_lt
  have h := bits_or_u64_nat (x.toNat * 256) y.toNat (by omega) (by omega)
  have e : x.toNat * 256 ||| y.toNat = x.toNat * 256 + y.toNat := by
    have h1 := Nat.shiftLeft_add_eq_or_of_lt (show y.toNat < 2 ^ 8 by omega) x.toNat
    rw [Nat.shiftLeft_eq] at h1
    exact h1.symm
  rw [e] at h
  rw [← h]
  congr 1
set_option maxRecDepth 100000 in
theorem high2_any (x y : UInt8) (w : World) :
    Calls Try.prog 92 #[.string ⟨#[x, y]⟩] w fun e w' => e = .returned (.int .u64 (x.toNat * 256 + y.toNat : Nat)) ∧ w = w' := by
  have hx := x.toNat_lt
  have hy := y.toNat_lt
  have e1 : bits .or .u64 0 (x.toNat : Int) = (x.toNat : Int) := by
    have := bits_or_u64_nat 0 x.toNat (by omega) (by omega)
    simpa using this
  have e2 := or256 x y
  have e3 : IntKind.u64.wrap (x.toNat : Int) = (x.toNat : Int) := IntWalk.u64_in _ (by omega)
  have e4 : IntKind.u64.wrap (y.toNat : Int) = (y.toNat : Int) := IntWalk.u64_in _ (by omega)
  have e5 : IntKind.u64.wrap ((x.toNat : Int) * 256) = (x.toNat : Int) * 256 := IntWalk.u64_in _ (by omega)
  go_enter Try.func92, Try.ntmps92
  go_wp2
  go_loopw [3, 7] (fun v i w' => ∃ k : Nat, k ≤ 2 ∧ i = .int .i64 k ∧ v = .int .u64 (if k = 0 then 0 else if k = 1 then (x.toNat : Int) else ((x.toNat * 256 + y.toNat : Nat) : Int)) ∧ w' = w) (fun _ i _ => 2 - (intOf i).toNat)
  case atStart => exact ⟨0, by omega, rfl, rfl, rfl⟩
  case round =>
    obtain ⟨k, hk, rfl, rfl, rfl⟩ := hrel
    have hk3 : k = 0 ∨ k = 1 ∨ k = 2 := by omega
    rcases hk3 with rfl | rfl | rfl
    · go_wp2
      go_roundw
      case rel => exact ⟨1, by omega, rfl, by
        show Value.int .u64 (bits .or .u64 0 (IntKind.u64.wrap (x.toNat : Int))) = Value.int .u64 (x.toNat : Int)
        rw [e3, e1], by first | rfl | trivial⟩
      case measure => simp [intOf]
    · go_wp2
      go_roundw
      case rel => exact ⟨2, by omega, rfl, by
        show Value.int .u64 _ = Value.int .u64 ((x.toNat * 256 + y.toNat : Nat) : Int)
        congr 1
        first | exact e2 | (show bits .or .u64 ((x.toNat : Int) * 256) (IntKind.u64.wrap (y.toNat : Int)) = _; rw [e4, e2]), by first | rfl | trivial⟩
      case measure => simp [intOf]
    · go_wp2
      go_ret
      exact ⟨rfl, rfl⟩
theorem high0_any (w : World) : Calls Try.prog 92 #[.string ⟨#[]⟩] w fun e w' => e = .returned (.int .u64 0) ∧ w = w' := high_any [] 0 rfl (by simp) w
theorem rfixed2_any (g : Nat) (b : ByteArray) (s : RS) (w : World) (h : Rdr w g b s) (hb : b.size ≤ 140737488355328) :
    Calls Try.prog 41 #[.pointer (some ⟨g, 0, none⟩), .int .i64 2] w fun e w' => e = .returned (.int .u64 (n2 (rdR b.data.toList 2 s).1)) ∧ Rdr w' g b (rdR b.data.toList 2 s).2 ∧ w.grownBy w' (some g) := by
  have H := Lib.hid h
  have hf := fun hs => (rdR_form (b := b.data.toList) (k := 2) (s := s) h.2 hs)
  clear h
  obtain ⟨l, hl⟩ : ∃ l, l = (rdR b.data.toList 2 s).1 := ⟨_, rfl⟩
  have hlc : l = [] ∨ ∃ x y, l = [x, y] := by
    by_cases h0 : (rdR b.data.toList 2 s).2.e = 0
    · have h2 := (hf h0).2.1
      rw [← hl] at h2
      match l, h2 with
      | [x, y], _ => exact .inr ⟨x, y, rfl⟩
    · left
      rw [hl]
      unfold rdR at h0 ⊢
      split
      · rename_i h1
        split
        · rfl
        · rename_i h2; rw [if_pos h1, if_neg h2] at h0; exact absurd rfl h0
      · rfl
  clear hf
  rw [← hl]
  have HL := Lib.hid hl
  clear hl
  go_enter Try.func41, Try.ntmps41
  go_wp2_with fail
  refine (rtake_any g b 2 s _ H.out hb (by omega)).mono ?_
  rintro e w1 ⟨rfl, h1, g1⟩
  have H1 := Lib.hid h1
  have G1 := Lib.hid g1
  clear h1 g1
  rw [← HL.out]
  rcases hlc with rfl | ⟨x, y, rfl⟩
  · skip
    go_wp2_with fail
    refine (high0_any _).mono ?_
    rintro e w2 ⟨rfl, rfl⟩
    go_wp2
    go_ret
    exact ⟨rfl, H1.out, G1.out⟩
  · skip
    go_wp2_with fail
    refine (high2_any x y _).mono ?_
    rintro e w2 ⟨rfl, rfl⟩
    go_wp2
    go_ret
    exact ⟨rfl, H1.out, G1.out⟩
theorem rleft_any (g : Nat) (b : ByteArray) (s : RS) (w : World) (h : Rdr w g b s) (hb : b.size ≤ 140737488355328) :
    Calls Try.prog 43 #[.pointer (some ⟨g, 0, none⟩)] w fun e w' => e = .returned (.int .i64 ((b.size - s.n : Nat) : Int)) ∧ Drawn w w' := by
  have c0 : w.cell? ⟨g, 0, none⟩ = some (.string b) := h.1.cell 0
  have c1 : w.cell? ⟨g, 1, none⟩ = some (.int .i64 s.n) := h.1.cell 1
  have hn : s.n ≤ b.size := h.2
  have l2 : IntKind.i64.wrap ((b.size : Int) - (s.n : Int)) = ((b.size - s.n : Nat) : Int) := by rw [IntWalk.i64_in _ (by omega)]; omega
  clear h
  go_enter Try.func43, Try.ntmps43
  go_wp2
  go_quiet (fail)
  go_wp2
  go_ret
  exact ⟨rfl, ⟨_, rfl⟩⟩
theorem rraw_any (g : Nat) (b : ByteArray) (k : Nat) (s : RS) (w : World) (h : Rdr w g b s) (hb : b.size ≤ 140737488355328) (hk : k ≤ 140737488355328) :
    Calls Try.prog 42 #[.pointer (some ⟨g, 0, none⟩), .int .i64 k] w fun e w' => e = .returned (.string ⟨(rdR b.data.toList k s).1.toArray⟩) ∧ Rdr w' g b (rdR b.data.toList k s).2 ∧ w.grownBy w' (some g) := by
  have H := Lib.hid h
  clear h
  have d1 : decide ((k : Int) < 0) = false := by simp
  go_enter Try.func42, Try.ntmps42
  go_wp2_with fail
  refine (rtake_any g b k s _ H.out hb hk).mono ?_
  rintro e w1 ⟨rfl, h1, g1⟩
  have H1 := Lib.hid h1
  have G1 := Lib.hid g1
  clear h1 g1
  go_wp2
  go_ret
  exact ⟨rfl, H1.out, G1.out⟩
end Go.Proofs.Ytljfigikkajlnaa

namespace Go.Proofs.Ytljfigikkajlnaa
open Go.RowKit Go.Lib
set_option linter.unusedVariables false
set_option linter.unusedSimpArgs false

/-- The document's Reader in block g. -/
def Rdd (w : World) (g : Nat) (b : ByteArray) (s : RS) : Prop := GR.Blk w g 116 #[.string b, .int .i64 s.n, .int .i64 s.e] ∧ s.n ≤ b.data.toList.length
theorem Rdd.below {w w' : World} {g : Nat} {b : ByteArray} {s : RS} (h : Rdd w g b s) (hb : Below w.heap.size w w') : Rdd w' g b s := ⟨h.1.below hb h.1.lt, h.2⟩
theorem Rdd.drewN {w : World} {g : Nat} {b : ByteArray} {s : RS} (h : Rdd w g b s) (n : Nat) : Rdd (w.drewN n) g b s := ⟨h.1.drewN n, h.2⟩
def failS (s : RS) (x : Int) : RS := if s.e = 0 then ⟨s.n, x⟩ else s
theorem failS_n (s : RS) (x : Int) : (failS s x).n = s.n := by unfold failS; split <;> rfl
theorem dfail_any (g : Nat) (b : ByteArray) (s : RS) (x : Int) (w : World) (h : Rdd w g b s) :
    Calls Try.prog 135 #[.pointer (some ⟨g, 0, none⟩), .int .i64 x] w fun e w' => e = .returned (.tuple #[]) ∧ Rdd w' g b (failS s x) ∧ w.grownBy w' (some g) := by
  have c2 : w.cell? ⟨g, 2, none⟩ = some (.int .i64 s.e) := h.1.cell 2
  have d2 := h.1.frozen 2
  have H := Lib.hid h
  clear h
  by_cases he : s.e = 0
  · have HP : Hid (failS s x = ⟨s.n, x⟩) := Lib.hid (by rw [failS, if_pos he])
    rw [he] at c2
    clear he
    go_enter Try.func135, Try.ntmps135
    go_wp2
    go_end0
    rw [HP.out]
    exact ⟨rfl, ⟨by exact H.out.1.set_ 2 _, H.out.2⟩, grown_set 2 _⟩
  · have HP : Hid (failS s x = s) := Lib.hid (by rw [failS, if_neg he])
    have e1 : decide (s.e = 0) = false := by simpa using he
    have e2 : (s.e == 0) = false := by simpa using he
    clear he
    go_enter Try.func135, Try.ntmps135
    go_wp2
    go_end0
    rw [HP.out]
    exact ⟨rfl, H.out, grown_refl w _⟩
theorem dFail_any (g : Nat) (b : ByteArray) (s : RS) (x : Int) (w : World) (h : Rdd w g b s) :
    Calls Try.prog 132 #[.pointer (some ⟨g, 0, none⟩), .int .i64 x] w fun e w' => e = .returned (.tuple #[]) ∧ Rdd w' g b (failS s x) ∧ w.grownBy w' (some g) := by
  have H := Lib.hid h
  clear h
  go_enter Try.func132, Try.ntmps132
  go_wp2_with fail
  refine (dfail_any g b s x _ H.out).mono ?_
  rintro e w1 ⟨rfl, h1, g1⟩
  have H1 := Lib.hid h1
  have G1 := Lib.hid g1
  clear h1 g1
  go_wp2
  go_end0
  exact ⟨rfl, H1.out, G1.out⟩

set_option maxRecDepth 100000 in
theorem draw_any (g : Nat) (b : ByteArray) (k : Nat) (s : RS) (w : World) (h : Rdd w g b s) (hb : b.size ≤ 140737488355328) (hk : k ≤ 140737488355328) :
    Calls Try.prog 136 #[.pointer (some ⟨g, 0, none⟩), .int .i64 k] w fun e w' => e = .returned (.string ⟨(rdR b.data.toList k s).1.toArray⟩) ∧ Rdd w' g b (rdR b.data.toList k s).2 ∧ w.grownBy w' (some g) := by
  obtain ⟨n, er⟩ := s
  have c0 : w.cell? ⟨g, 0, none⟩ = some (.string b) := h.1.cell 0
  have c1 : w.cell? ⟨g, 1, none⟩ = some (.int .i64 n) := h.1.cell 1
  have H := Lib.hid h
  have hn : n ≤ b.size := h.2
  have l0 : decide ((k : Int) < 0) = false := by simp
  have l2 : IntKind.i64.wrap ((b.size : Int) - (n : Int)) = (b.size : Int) - (n : Int) := IntWalk.i64_in _ (by omega)
  by_cases hl : b.size - n < k
  · have l1 : decide ((b.size : Int) - (n : Int) < (k : Int)) = true := by simp; omega
    have HP : Hid (rdR b.data.toList k ⟨n, er⟩ = ([], failS ⟨n, er⟩ 10)) := Lib.hid (by
      rw [rdR, failS]
      by_cases he : er = 0
      · rw [if_pos he, if_pos he, if_pos (show b.data.toList.length - n < k from hl)]
      · rw [if_neg he, if_neg he])
    have HE : Hid ((failS ⟨n, er⟩ 10).e ≠ 0) := Lib.hid (by
      rw [failS]
      by_cases he : er = 0
      · rw [if_pos he]; show (10 : Int) ≠ 0; decide
      · rw [if_neg he]; exact he)
    clear hl h
    go_enter Try.func136, Try.ntmps136
    go_wp2
    go_quiet (fail)
    go_wp2_with fail
    refine (dfail_any g b ⟨n, er⟩ 10 _ (H.out.drewN _)).mono ?_
    rintro e w1 ⟨rfl, h1, g1⟩
    have H1 := Lib.hid h1
    have G1 := Lib.hid (grown_trans (grown_drewN (grown_refl w _) _) g1)
    obtain ⟨x, hx⟩ : ∃ x, x = (failS ⟨n, er⟩ 10).e := ⟨_, rfl⟩
    have y0 : w1.cell? ⟨g, 2, none⟩ = some (.int .i64 x) := by rw [hx]; exact h1.1.cell 2
    have hx0 : x ≠ 0 := by rw [hx]; exact HE.out
    have q1 : (x != 0) = true := by simpa using hx0
    have q2 : decide (x = 0) = false := by simpa using hx0
    clear h1 g1 hx hx0
    go_wp2
    go_ret
    rw [HP.out]
    exact ⟨rfl, H1.out, G1.out⟩
  · have l1 : decide ((b.size : Int) - (n : Int) < (k : Int)) = false := by simp; omega
    by_cases he : er = 0
    · subst he
      have HP : Hid (rdR b.data.toList k ⟨n, 0⟩ = ((b.data.toList.drop n).take k, ⟨n + k, 0⟩)) := Lib.hid (by rw [rdR, if_pos rfl, if_neg (show ¬ b.data.toList.length - n < k from hl)])
      have c2 : w.cell? ⟨g, 2, none⟩ = some (.int .i64 0) := h.1.cell 2
      have f1 := h.1.frozen 1
      have l3 : IntKind.i64.wrap ((n : Int) + (k : Int)) = (n : Int) + (k : Int) := IntWalk.i64_in _ (by omega)
      have l4 : (0 : Int) ≤ (n : Int) + (k : Int) := by omega
      have l5 : (n : Int) + (k : Int) ≤ (b.size : Int) := by omega
      have l6 : (n : Int) ≤ (n : Int) + (k : Int) := by omega
      have l7 : ((n : Int) + (k : Int)).toNat = n + k := by omega
      have HX := Lib.hid (ext_str b n k)
      clear hl h
      go_enter Try.func136, Try.ntmps136
      go_wp2
      go_quiet (fail)
      go_wp2
      go_quiet (fail)
      go_wp2
      go_ret
      rw [HP.out]
      exact ⟨by rw [HX.out]; rfl, ⟨by exact (H.out.1.drewN _).set_ 1 _, by show n + k ≤ b.size; omega⟩, grown_trans (grown_drewN (grown_refl w _) _) (grown_set 1 _)⟩
    · have HP : Hid (rdR b.data.toList k ⟨n, er⟩ = ([], ⟨n, er⟩)) := Lib.hid (by rw [rdR, if_neg he])
      have c2 : w.cell? ⟨g, 2, none⟩ = some (.int .i64 er) := h.1.cell 2
      have q1 : (er != 0) = true := by simpa using he
      have q2 : decide (er = 0) = false := by simpa using he
      clear hl h he
      go_enter Try.func136, Try.ntmps136
      go_wp2
      go_quiet (fail)
      go_wp2
      go_ret
      rw [HP.out]
      exact ⟨rfl, H.out.drewN _, grown_drewN (grown_refl w _) _⟩

/-- The number of one byte, or of none. -/
theorem whole_any (l : List UInt8) (x : UInt8) (hx : x = l.headD 0) (hl : l.length ≤ 1) (w : World) :
    Calls Try.prog 137 #[.string ⟨l.toArray⟩] w fun e w' => e = .returned (.int .u64 x.toNat) ∧ w = w' := by
  subst hx
  match l, hl with
  | [], _ =>
    go_enter Try.func137, Try.ntmps137
    go_wp2
    go_loopw [3, 4] (fun v i w' => v = .int .u64 0 ∧ i = .int .i64 0 ∧ w' = w) (fun _ _ _ => 0)
    case atStart => exact ⟨rfl, rfl, rfl⟩
    case round =>
      obtain ⟨rfl, rfl, rfl⟩ := hrel
      go_wp2
      go_ret
      exact ⟨rfl, rfl⟩
  | [c], _ =>
    have hc := c.toNat_lt
    go_enter Try.func137, Try.ntmps137
    go_wp2
    go_loopw [3, 4] (fun v i w' => ∃ k : Nat, k ≤ 1 ∧ i = .int .i64 k ∧ v = .int .u64 (if k = 0 then 0 else (c.toNat : Int)) ∧ w' = w) (fun _ i _ => 1 - (intOf i).toNat)
    case atStart => exact ⟨0, by omega, rfl, rfl, rfl⟩
    case round =>
      obtain ⟨k, hk, rfl, rfl, rfl⟩ := hrel
      by_cases h0 : k = 0
      · subst h0
        go_wp2
        go_roundw
        case rel => exact ⟨1, by omega, rfl, by
          show Value.int .u64 (IntKind.u64.wrap (IntKind.u64.wrap (c.toNat : Int))) = Value.int .u64 (c.toNat : Int)
          rw [IntWalk.u64_in (c.toNat : Int) (by omega), IntWalk.u64_in _ (by omega)], by first | rfl | trivial⟩
        case measure => simp [intOf]
      · obtain rfl : k = 1 := by omega
        go_wp2
        go_ret
        exact ⟨rfl, rfl⟩
theorem dbyte_any (g : Nat) (b : ByteArray) (s : RS) (w : World) (h : Rdd w g b s) (hb : b.size ≤ 140737488355328) :
    Calls Try.prog 120 #[.pointer (some ⟨g, 0, none⟩)] w fun e w' => e = .returned (.int .u8 (rdB b.data.toList s).1.toNat) ∧ Rdd w' g b (rdB b.data.toList s).2 ∧ w.grownBy w' (some g) := by
  have HL := rdR_len (b := b.data.toList) (k := 1) (s := s)
  have H := Lib.hid h
  obtain ⟨c, hc⟩ : ∃ c : UInt8, c = (rdR b.data.toList 1 s).1.headD 0 := ⟨_, rfl⟩
  have HC := Lib.hid hc
  have h256 := c.toNat_lt
  have e1 : IntKind.u8.wrap (c.toNat : Int) = c.toNat := IntWalk.u8_in _ (by omega)
  clear hc
  clear h
  go_enter Try.func120, Try.ntmps120
  go_wp2_with fail
  refine (draw_any g b 1 s _ H.out hb (by omega)).mono ?_
  rintro e w1 ⟨rfl, h1, g1⟩
  have H1 := Lib.hid h1
  have G1 := Lib.hid g1
  clear h1 g1
  go_wp2_with fail
  refine (whole_any _ c HC.out HL _).mono ?_
  rintro e w2 ⟨rfl, rfl⟩
  go_wp2
  go_ret
  exact ⟨by
    show _ = Ending.returned (.int .u8 ((rdR b.data.toList 1 s).1.headD 0).toNat)
    rw [← HC.out]
    rfl, H1.out, G1.out⟩
theorem digs_step {B : List UInt8} {j k : Nat} (h : j < B.length) : digs (k + 1) (B.drop j) = if B[j].toNat < 128 then [B[j]] else B[j] :: digs k (B.drop (j + 1)) := by
  rw [List.drop_eq_getElem_cons h, digs]
theorem take_more {B : List UInt8} {n k : Nat} (h : n + k < B.length) : (B.drop n).take (k + 1) = (B.drop n).take k ++ [B[n + k]] := by
  rw [List.take_succ_eq_append_getElem (by simp; omega)]
  simp
theorem ext_str2 (b : ByteArray) (n k : Nat) : b.extract n (n + k) = ⟨((b.data.toList.drop n).take k).toArray⟩ := ext_str b n k

set_option maxRecDepth 100000 in
set_option maxHeartbeats 3200000 in
theorem digits_any (g : Nat) (b : ByteArray) (n : Nat) (w : World) (h : Rdd w g b ⟨n, 0⟩) (hb : b.size ≤ 140737488355328) :
    Calls Try.prog 133 #[.pointer (some ⟨g, 0, none⟩)] w fun e w' => e = .returned (.string ⟨(digs 10 (b.data.toList.drop n)).toArray⟩) ∧ Drawn w w' := by
  have c0 : w.cell? ⟨g, 0, none⟩ = some (.string b) := h.1.cell 0
  have c1 : w.cell? ⟨g, 1, none⟩ = some (.int .i64 n) := h.1.cell 1
  have hn : n ≤ b.size := h.2
  clear h
  go_enter Try.func133, Try.ntmps133
  go_wp2
  go_loopw [3] (fun ii w' => ∃ i : Nat, ii = .int .i64 i ∧ i ≤ 10 ∧ n + i ≤ b.size ∧ Hid (digs 10 (b.data.toList.drop n) = (b.data.toList.drop n).take i ++ digs (10 - i) (b.data.toList.drop (n + i))) ∧ Hid (Drawn w w')) (fun ii _ => 10 - (intOf ii).toNat)
  case atStart => exact ⟨0, rfl, by omega, by omega, Lib.hid (by simp), Lib.hid (Drawn.refl _)⟩
  case round =>
    obtain ⟨i, rfl, hi, hni, hD, hW⟩ := hrel
    obtain ⟨m, rfl⟩ := hW.out
    clear hW
    have l1 : IntKind.i64.wrap ((n : Int) + (i : Int)) = (n : Int) + (i : Int) := IntWalk.i64_in _ (by omega)
    by_cases h10 : i < 10
    · have q1 : decide ((i : Int) < 10) = true := by simp; omega
      have q2 : decide (i < 10) = true := by simp; omega
      by_cases hl : n + i < b.size
      · have l2 : decide ((n : Int) + (i : Int) < (b.size : Int)) = true := by simp; omega
        have l3 : IntKind.i64.wrap ((i : Int) + 1) = (i : Int) + 1 := IntWalk.i64_in _ (by omega)
        have l4 : IntKind.i64.wrap ((n : Int) + ((i : Int) + 1)) = (n : Int) + ((i : Int) + 1) := IntWalk.i64_in _ (by omega)
        have l5 : IntKind.i64.wrap ((n : Int) + ((i : Int) + 1) - 1) = (n : Int) + (i : Int) := by rw [IntWalk.i64_in _ (by omega)]; omega
        have l6 : (0 : Int) ≤ (n : Int) + (i : Int) := by omega
        have l7 : (n : Int) + (i : Int) < (b.size : Int) := by omega
        have l8 : ((n : Int) + (i : Int)).toNat = n + i := by omega
        have l9 : (0 : Int) ≤ (n : Int) + ((i : Int) + 1) := by omega
        have l10 : (n : Int) + ((i : Int) + 1) ≤ (b.size : Int) := by omega
        have l11 : (n : Int) ≤ (n : Int) + ((i : Int) + 1) := by omega
        have l12 : ((n : Int) + ((i : Int) + 1)).toNat = n + (i + 1) := by omega
        obtain ⟨c, hc⟩ : ∃ c : UInt8, c = b.data.toList[n + i]'hl := ⟨_, rfl⟩
        have hx : b[n + i] = c := hc.symm
        have h256 := c.toNat_lt
        have hSt := digs_step (k := 10 - (i + 1)) (show n + i < b.data.toList.length from hl)
        have hTk := take_more (show n + i < b.data.toList.length from hl)
        rw [← hc] at hSt hTk
        rw [show 10 - (i + 1) + 1 = 10 - i by omega] at hSt
        have HX := Lib.hid (ext_str b n (i + 1))
        have hi1 : i + 1 ≤ 10 := by omega
        have hn1 : n + (i + 1) ≤ b.size := by omega
        clear hc
        by_cases h128 : c.toNat < 128
        · have b1 : decide ((c.toNat : Int) < 128) = true := by simp; omega
          have b2 : decide (c.toNat < 128) = true := by simp; omega
          have HF : Hid (digs 10 (b.data.toList.drop n) = (b.data.toList.drop n).take (i + 1)) := Lib.hid (by rw [hD.out, hSt, if_pos h128, hTk])
          clear hSt hTk h10
          go_wp2
          go_quiet (fail)
          go_wp2
          go_quiet (fail)
          go_wp2
          go_quiet (fail)
          go_wp2
          go_ret
          exact ⟨by rw [HF.out, HX.out]; rfl, (by repeat (first | exact Drawn.refl _ | exact ⟨_, rfl⟩ | refine Drawn.drewN ?_ _))⟩
        · have b1 : decide ((c.toNat : Int) < 128) = false := by simp; omega
          have b2 : decide (c.toNat < 128) = false := by simp; omega
          have HF : Hid (digs 10 (b.data.toList.drop n) = (b.data.toList.drop n).take (i + 1) ++ digs (10 - (i + 1)) (b.data.toList.drop (n + (i + 1)))) := Lib.hid (by rw [hD.out, hSt, if_neg h128, hTk, List.append_assoc, List.singleton_append]; rfl)
          clear hSt hTk h10
          go_wp2
          go_quiet (fail)
          go_wp2
          go_quiet (fail)
          go_wp2
          go_roundw
          case rel => exact ⟨i + 1, by go_num, hi1, hn1, HF, Lib.hid (by repeat (first | exact Drawn.refl _ | exact ⟨_, rfl⟩ | refine Drawn.drewN ?_ _))⟩
          case measure => simp [intOf]; omega
      · have l2 : decide ((n : Int) + (i : Int) < (b.size : Int)) = false := by simp; omega
        have l6 : (0 : Int) ≤ (n : Int) + (i : Int) := by omega
        have l7 : (n : Int) + (i : Int) ≤ (b.size : Int) := by omega
        have l8 : ((n : Int) + (i : Int)).toNat = n + i := by omega
        have l9 : (n : Int) ≤ (n : Int) + (i : Int) := by omega
        have HX := Lib.hid (ext_str b n i)
        have HF : Hid (digs 10 (b.data.toList.drop n) = (b.data.toList.drop n).take i) := Lib.hid (by
          obtain ⟨k, hk⟩ : ∃ k, 10 - i = k + 1 := ⟨9 - i, by omega⟩
          rw [hD.out, hk, List.drop_eq_nil_of_le (show b.data.toList.length ≤ n + i by show b.size ≤ _; omega), digs, List.append_nil])
        clear hl h10
        go_wp2
        go_quiet (fail)
        go_wp2
        go_quiet (fail)
        go_wp2
        go_ret
        exact ⟨by rw [HF.out, HX.out]; rfl, (by repeat (first | exact Drawn.refl _ | exact ⟨_, rfl⟩ | refine Drawn.drewN ?_ _))⟩
    · obtain rfl : i = 10 := by omega
      have l6 : (0 : Int) ≤ (n : Int) + 10 := by omega
      have l7 : (n : Int) + 10 ≤ (b.size : Int) := by omega
      have l8 : ((n : Int) + 10).toNat = n + 10 := by omega
      have l9 : (n : Int) ≤ (n : Int) + 10 := by omega
      have l10 : IntKind.i64.wrap ((n : Int) + 10) = (n : Int) + 10 := IntWalk.i64_in _ (by omega)
      have HX := Lib.hid (ext_str b n 10)
      have HF : Hid (digs 10 (b.data.toList.drop n) = (b.data.toList.drop n).take 10) := Lib.hid (by rw [hD.out, Nat.sub_self, digs, List.append_nil])
      clear h10
      go_wp2
      go_quiet (fail)
      go_wp2
      go_quiet (fail)
      go_wp2
      go_ret
      exact ⟨by rw [HF.out, HX.out]; rfl, (by repeat (first | exact Drawn.refl _ | exact ⟨_, rfl⟩ | refine Drawn.drewN ?_ _))⟩

theorem dnum_drop {d : List UInt8} {j : Nat} (h : j < d.length) : dnum (d.drop j) = d[j].toNat % 128 + 128 * dnum (d.drop (j + 1)) := by
  rw [List.drop_eq_getElem_cons h, dnum]
theorem dnum_le : ∀ (d : List UInt8) (j : Nat), dnum (d.drop j) ≤ dnum d
  | [], j => by simp
  | c :: t, 0 => by simp
  | c :: t, j + 1 => by
    rw [List.drop_succ_cons, dnum]
    have := dnum_le t j
    omega
theorem dnum_lt : ∀ (d : List UInt8), 0 < d.length → dnum d < 128 ^ (d.length - 1) * (lastN d % 128 + 1)
  | [], h => absurd h (by simp)
  | [c], _ => by simp [dnum, lastN]
  | a :: c :: t, _ => by
    have ih := dnum_lt (c :: t) (by simp)
    rw [dnum, lastN]
    have e : 128 ^ ((a :: c :: t).length - 1) = 128 * 128 ^ ((c :: t).length - 1) := by
      simp only [List.length_cons]
      rw [show t.length + 1 + 1 - 1 = t.length + 1 - 1 + 1 by omega, Nat.pow_succ, Nat.mul_comm]
    rw [e, Nat.mul_assoc]
    omega
theorem dnum_64 {d : List UInt8} (h : d.length ≤ 10) (h2 : d.length = 10 → lastN d ≤ 1) : dnum d < 18446744073709551616 := by
  by_cases h0 : d.length = 0
  · have : d = [] := List.eq_nil_of_length_eq_zero h0
    subst this; decide
  · have h1 := dnum_lt d (by omega)
    by_cases h10 : d.length = 10
    · have h3 := h2 h10
      rw [h10, show 10 - 1 = 9 from rfl, pow_9] at h1
      have : lastN d % 128 + 1 ≤ 2 := by omega
      have := Nat.mul_le_mul_left 9223372036854775808 this
      omega
    · have h4 : 128 ^ (d.length - 1) ≤ 128 ^ 8 := Nat.pow_le_pow_right (by omega) (by omega)
      have h5 : 128 ^ 8 = 72057594037927936 := by decide
      have h6 : lastN d % 128 + 1 ≤ 128 := by omega
      have h7 := Nat.mul_le_mul h4 h6
      omega
end Go.Proofs.Ytljfigikkajlnaa

namespace Go.Proofs.Ytljfigikkajlnaa
open Go.RowKit Go.Lib
set_option linter.unusedVariables false
set_option linter.unusedSimpArgs false

set_option maxRecDepth 100000 in
set_option maxHeartbeats 6400000 in
theorem number_any (D : ByteArray) (most : Nat) (w : World) (hD : D.size ≤ 10) (hmo : most < 18446744073709551616) :
    Calls Try.prog 134 #[.string D, .int .u64 most] w fun e w' => e = .returned (.tuple #[.int .u64 (numP most D.data.toList).2, .int .i64 (numP most D.data.toList).1]) ∧ w = w' := by
  have hlen : D.data.toList.length = D.size := rfl
  by_cases h0 : D.size = 0
  · have HP : Hid (numP most D.data.toList = (10, 0)) := Lib.hid (by rw [numP, if_pos ⟨by omega, .inl (by omega)⟩])
    clear hlen
    go_enter Try.func134, Try.ntmps134
    go_wp2
    go_ret2
    rw [HP.out]
    exact ⟨rfl, rfl⟩
  · obtain ⟨m, hsz⟩ : ∃ m, D.size = m + 1 := ⟨D.size - 1, by omega⟩
    clear h0
    obtain ⟨c, hc⟩ : ∃ c : UInt8, c = D.data.toList[m]'(by show m < D.size; rw [hsz]; exact Nat.lt_succ_self m) := ⟨_, rfl⟩
    have hlast : lastN D.data.toList = c.toNat := by
      rw [lastN_getD, hlen, hsz, hc, List.getD_eq_getElem?_getD, show m + 1 - 1 = m by omega, List.getElem?_eq_getElem (by show m < D.size; rw [hsz]; exact Nat.lt_succ_self m)]
      rfl
    have hx : D[m]'(by rw [hsz]; exact Nat.lt_succ_self m) = c := hc.symm
    have h256 := c.toNat_lt
    have l1 : IntKind.i64.wrap ((m : Int) + 1 - 1) = (m : Int) := by rw [IntWalk.i64_in _ (by omega)]; omega
    have l2 : (0 : Int) ≤ (m : Int) := by omega
    have l3 : (m : Int) < (m : Int) + 1 := by omega
    have hn : numP most D.data.toList = (if m + 1 < 10 ∧ (m + 1 = 0 ∨ 128 ≤ c.toNat) then (10, 0) else if (m + 1 = 10 ∧ 1 < c.toNat) ∨ (1 < m + 1 ∧ c.toNat = 0) then (11, 0) else if most < dnum D.data.toList then (11, 0) else (0, dnum D.data.toList)) := by
      rw [numP, hlast, hlen, hsz]
    have h64 : (m + 1 = 10 → c.toNat ≤ 1) → dnum D.data.toList < 18446744073709551616 := fun h => dnum_64 (by omega) (fun e => by rw [hlast]; exact h (by omega))
    clear hc hlast hlen
    by_cases hm9 : m < 9
    · have b1 : decide ((m : Int) + 1 < 10) = true := by first | (simp; done) | (simp; omega) | omega
      have b2 : decide (m + 1 < 10) = true := by first | (simp; done) | (simp; omega) | omega
      have b3 : decide (m < 9) = true := by first | (simp; done) | (simp; omega) | omega
      have b4 : decide ((m : Int) < 9) = true := by first | (simp; done) | (simp; omega) | omega
      have b5 : decide ((m : Int) + 1 = 10) = false := by first | (simp; done) | (simp; omega) | omega
      have b6 : ((m : Int) + 1 == 10) = false := by first | (simp; done) | (simp; omega) | omega
      have b7 : decide (m = 9) = false := by first | (simp; done) | (simp; omega) | omega
      have b8 : (m == 9) = false := by first | (simp; done) | (simp; omega) | omega
      have b9 : decide (m + 1 = 10) = false := by first | (simp; done) | (simp; omega) | omega
      have b10 : decide ((m : Int) + 1 = 0) = false := by first | (simp; done) | (simp; omega) | omega
      have b11 : ((m : Int) + 1 == 0) = false := by first | (simp; done) | (simp; omega) | omega
      by_cases h128 : 128 ≤ c.toNat
      · have b12 : decide ((128 : Int) ≤ (c.toNat : Int)) = true := by first | (simp; done) | (simp; omega) | omega
        have b13 : decide (128 ≤ c.toNat) = true := by first | (simp; done) | (simp; omega) | omega
        have HP : Hid (numP most D.data.toList = (10, 0)) := Lib.hid (by rw [hn, if_pos ⟨by omega, .inr h128⟩])
        clear hn h64
        try clear hm
        go_enter Try.func134, Try.ntmps134
        go_wp2
        go_ret2
        rw [HP.out]
        exact ⟨rfl, rfl⟩
      · have b14 : decide ((128 : Int) ≤ (c.toNat : Int)) = false := by first | (simp; done) | (simp; omega) | omega
        have b15 : decide (128 ≤ c.toNat) = false := by first | (simp; done) | (simp; omega) | omega
        by_cases hc0 : c.toNat = 0
        · have b16 : decide ((c.toNat : Int) = 0) = true := by first | (simp; done) | (simp; omega) | omega
          have b17 : decide (c.toNat = 0) = true := by first | (simp; done) | (simp; omega) | omega
          have b18 : ((c.toNat : Int) == 0) = true := by first | (simp; done) | (simp; omega) | omega
          have b19 : (c.toNat == 0) = true := by first | (simp; done) | (simp; omega) | omega
          by_cases hm0 : 0 < m
          · have b20 : decide ((1 : Int) < (m : Int) + 1) = true := by first | (simp; done) | (simp; omega) | omega
            have b21 : decide (0 < m) = true := by first | (simp; done) | (simp; omega) | omega
            have b22 : decide ((0 : Int) < (m : Int)) = true := by first | (simp; done) | (simp; omega) | omega
            have HP : Hid (numP most D.data.toList = (11, 0)) := Lib.hid (by rw [hn, if_neg (by omega), if_pos (.inr ⟨by omega, hc0⟩)])
            clear hn h64 hc0
            try clear hm
            go_enter Try.func134, Try.ntmps134
            go_wp2
            go_ret2
            rw [HP.out]
            exact ⟨rfl, rfl⟩
          · have b23 : decide ((1 : Int) < (m : Int) + 1) = false := by first | (simp; done) | (simp; omega) | omega
            have b24 : decide (0 < m) = false := by first | (simp; done) | (simp; omega) | omega
            have b25 : decide ((0 : Int) < (m : Int)) = false := by first | (simp; done) | (simp; omega) | omega
            have HNUM := Lib.hid (show numP most D.data.toList = (if most < dnum D.data.toList then (11, 0) else (0, dnum D.data.toList)) by rw [hn, if_neg (by omega), if_neg (by omega)])
            replace h64 := h64 (by omega)
            clear hn
            try clear hc0
            try clear hm
            go_enter Try.func134, Try.ntmps134
            have HS64 := Lib.hid h64
            clear h64
            go_wp2
            go_loopw [7, 8] (fun vv ii w' => ∃ j : Nat, j ≤ m + 1 ∧ ii = .int .i64 ((j : Int) - 1) ∧ vv = .int .u64 (dnum (D.data.toList.drop j)) ∧ w' = w) (fun _ ii _ => (intOf ii + 1).toNat)
            case atStart => exact ⟨m + 1, by omega, by first | rfl | go_num | (congr 1; omega), by rw [List.drop_eq_nil_of_le (by show D.size ≤ _; omega)]; rfl, by first | rfl | trivial⟩
            case round =>
              obtain ⟨j, hj, rfl, rfl, rfl⟩ := hrel
              by_cases h0 : 0 < j
              · obtain ⟨i, rfl⟩ : ∃ i, j = i + 1 := ⟨j - 1, by omega⟩
                have l1 : ((i + 1 : Nat) : Int) - 1 = (i : Int) := by omega
                rw [l1]
                have hi : i < D.data.toList.length := by show i < D.size; omega
                have hdr := dnum_drop hi
                have hle := dnum_le D.data.toList i
                obtain ⟨x, hx⟩ : ∃ x : UInt8, x = D.data.toList[i] := ⟨_, rfl⟩
                have hx2 : D[i]'(by omega) = x := hx.symm
                rw [← hx] at hdr
                have h256 := x.toNat_lt
                obtain ⟨V, hV⟩ : ∃ V, V = dnum (D.data.toList.drop (i + 1)) := ⟨_, rfl⟩
                obtain ⟨V2, hV2⟩ : ∃ V2, V2 = dnum (D.data.toList.drop i) := ⟨_, rfl⟩
                have hs64 := HS64.out
                rw [← hV, ← hV2] at hdr
                rw [← hV2] at hle
                rw [← hV]
                have q1 : (0 : Int) ≤ (i : Int) := by omega
                have q2 : (i : Int) < (m : Int) + 1 := by omega
                have q3 : (i : Int) < (D.size : Int) := by omega
                have q4 : IntKind.i64.wrap ((i : Int) - 1) = (i : Int) - 1 := IntWalk.i64_in _ (by omega)
                have q5 : IntKind.u64.wrap (128 * (V : Int)) = 128 * (V : Int) := IntWalk.u64_in _ (by omega)
                have q6 : IntKind.u64.wrap ((x.toNat : Int) % 128) = (x.toNat : Int) % 128 := IntWalk.u64_in _ (by omega)
                have q7 : IntKind.u64.wrap (128 * (V : Int) + (x.toNat : Int) % 128) = (V2 : Int) := by rw [IntWalk.u64_in _ (by omega)]; omega
                have HV := Lib.hid hV
                have HV2 := Lib.hid hV2
                have HDR := Lib.hid hdr
                clear hx hV hV2 hdr hle hs64 l1
                go_wp2
                go_roundw
                case rel => exact ⟨i, by omega, rfl, by rw [← HV2.out], by first | rfl | trivial⟩
                case measure => simp [intOf]
              · obtain rfl : j = 0 := by omega
                rw [List.drop_zero]
                by_cases hq : most < dnum D.data.toList
                · have HP := HNUM.out
                  rw [if_pos hq] at HP
                  have HP2 := Lib.hid HP
                  obtain ⟨V, hV⟩ : ∃ V, V = dnum D.data.toList := ⟨_, rfl⟩
                  rw [← hV] at hq ⊢
                  have t1 : decide ((most : Int) < (V : Int)) = true := by simp; omega
                  have t2 : decide (most < V) = true := by simp; omega
                  clear HP hV hq
                  go_wp2
                  go_ret2
                  rw [HP2.out]
                  exact ⟨rfl, rfl⟩
                · have HP := HNUM.out
                  rw [if_neg hq] at HP
                  obtain ⟨V, hV⟩ : ∃ V, V = dnum D.data.toList := ⟨_, rfl⟩
                  rw [← hV] at hq HP ⊢
                  have HP2 := Lib.hid HP
                  have t1 : decide ((most : Int) < (V : Int)) = false := by simp; omega
                  have t2 : decide (most < V) = false := by simp; omega
                  clear HP hV hq
                  go_wp2
                  go_ret2
                  rw [HP2.out]
                  exact ⟨rfl, rfl⟩
        · have b26 : decide ((c.toNat : Int) = 0) = false := by first | (simp; done) | (simp; omega) | omega
          have b27 : decide (c.toNat = 0) = false := by first | (simp; done) | (simp; omega) | omega
          have b28 : ((c.toNat : Int) == 0) = false := by first | (simp; done) | (simp; omega) | omega
          have b29 : (c.toNat == 0) = false := by first | (simp; done) | (simp; omega) | omega
          by_cases hm0 : 0 < m
          · have b30 : decide ((1 : Int) < (m : Int) + 1) = true := by first | (simp; done) | (simp; omega) | omega
            have b31 : decide (0 < m) = true := by first | (simp; done) | (simp; omega) | omega
            have b32 : decide ((0 : Int) < (m : Int)) = true := by first | (simp; done) | (simp; omega) | omega
            have HNUM := Lib.hid (show numP most D.data.toList = (if most < dnum D.data.toList then (11, 0) else (0, dnum D.data.toList)) by rw [hn, if_neg (by omega), if_neg (by omega)])
            replace h64 := h64 (by omega)
            clear hn
            try clear hc0
            try clear hm
            go_enter Try.func134, Try.ntmps134
            have HS64 := Lib.hid h64
            clear h64
            go_wp2
            go_loopw [7, 8] (fun vv ii w' => ∃ j : Nat, j ≤ m + 1 ∧ ii = .int .i64 ((j : Int) - 1) ∧ vv = .int .u64 (dnum (D.data.toList.drop j)) ∧ w' = w) (fun _ ii _ => (intOf ii + 1).toNat)
            case atStart => exact ⟨m + 1, by omega, by first | rfl | go_num | (congr 1; omega), by rw [List.drop_eq_nil_of_le (by show D.size ≤ _; omega)]; rfl, by first | rfl | trivial⟩
            case round =>
              obtain ⟨j, hj, rfl, rfl, rfl⟩ := hrel
              by_cases h0 : 0 < j
              · obtain ⟨i, rfl⟩ : ∃ i, j = i + 1 := ⟨j - 1, by omega⟩
                have l1 : ((i + 1 : Nat) : Int) - 1 = (i : Int) := by omega
                rw [l1]
                have hi : i < D.data.toList.length := by show i < D.size; omega
                have hdr := dnum_drop hi
                have hle := dnum_le D.data.toList i
                obtain ⟨x, hx⟩ : ∃ x : UInt8, x = D.data.toList[i] := ⟨_, rfl⟩
                have hx2 : D[i]'(by omega) = x := hx.symm
                rw [← hx] at hdr
                have h256 := x.toNat_lt
                obtain ⟨V, hV⟩ : ∃ V, V = dnum (D.data.toList.drop (i + 1)) := ⟨_, rfl⟩
                obtain ⟨V2, hV2⟩ : ∃ V2, V2 = dnum (D.data.toList.drop i) := ⟨_, rfl⟩
                have hs64 := HS64.out
                rw [← hV, ← hV2] at hdr
                rw [← hV2] at hle
                rw [← hV]
                have q1 : (0 : Int) ≤ (i : Int) := by omega
                have q2 : (i : Int) < (m : Int) + 1 := by omega
                have q3 : (i : Int) < (D.size : Int) := by omega
                have q4 : IntKind.i64.wrap ((i : Int) - 1) = (i : Int) - 1 := IntWalk.i64_in _ (by omega)
                have q5 : IntKind.u64.wrap (128 * (V : Int)) = 128 * (V : Int) := IntWalk.u64_in _ (by omega)
                have q6 : IntKind.u64.wrap ((x.toNat : Int) % 128) = (x.toNat : Int) % 128 := IntWalk.u64_in _ (by omega)
                have q7 : IntKind.u64.wrap (128 * (V : Int) + (x.toNat : Int) % 128) = (V2 : Int) := by rw [IntWalk.u64_in _ (by omega)]; omega
                have HV := Lib.hid hV
                have HV2 := Lib.hid hV2
                have HDR := Lib.hid hdr
                clear hx hV hV2 hdr hle hs64 l1
                go_wp2
                go_roundw
                case rel => exact ⟨i, by omega, rfl, by rw [← HV2.out], by first | rfl | trivial⟩
                case measure => simp [intOf]
              · obtain rfl : j = 0 := by omega
                rw [List.drop_zero]
                by_cases hq : most < dnum D.data.toList
                · have HP := HNUM.out
                  rw [if_pos hq] at HP
                  have HP2 := Lib.hid HP
                  obtain ⟨V, hV⟩ : ∃ V, V = dnum D.data.toList := ⟨_, rfl⟩
                  rw [← hV] at hq ⊢
                  have t1 : decide ((most : Int) < (V : Int)) = true := by simp; omega
                  have t2 : decide (most < V) = true := by simp; omega
                  clear HP hV hq
                  go_wp2
                  go_ret2
                  rw [HP2.out]
                  exact ⟨rfl, rfl⟩
                · have HP := HNUM.out
                  rw [if_neg hq] at HP
                  obtain ⟨V, hV⟩ : ∃ V, V = dnum D.data.toList := ⟨_, rfl⟩
                  rw [← hV] at hq HP ⊢
                  have HP2 := Lib.hid HP
                  have t1 : decide ((most : Int) < (V : Int)) = false := by simp; omega
                  have t2 : decide (most < V) = false := by simp; omega
                  clear HP hV hq
                  go_wp2
                  go_ret2
                  rw [HP2.out]
                  exact ⟨rfl, rfl⟩
          · have b33 : decide ((1 : Int) < (m : Int) + 1) = false := by first | (simp; done) | (simp; omega) | omega
            have b34 : decide (0 < m) = false := by first | (simp; done) | (simp; omega) | omega
            have b35 : decide ((0 : Int) < (m : Int)) = false := by first | (simp; done) | (simp; omega) | omega
            have HNUM := Lib.hid (show numP most D.data.toList = (if most < dnum D.data.toList then (11, 0) else (0, dnum D.data.toList)) by rw [hn, if_neg (by omega), if_neg (by omega)])
            replace h64 := h64 (by omega)
            clear hn
            try clear hc0
            try clear hm
            go_enter Try.func134, Try.ntmps134
            have HS64 := Lib.hid h64
            clear h64
            go_wp2
            go_loopw [7, 8] (fun vv ii w' => ∃ j : Nat, j ≤ m + 1 ∧ ii = .int .i64 ((j : Int) - 1) ∧ vv = .int .u64 (dnum (D.data.toList.drop j)) ∧ w' = w) (fun _ ii _ => (intOf ii + 1).toNat)
            case atStart => exact ⟨m + 1, by omega, by first | rfl | go_num | (congr 1; omega), by rw [List.drop_eq_nil_of_le (by show D.size ≤ _; omega)]; rfl, by first | rfl | trivial⟩
            case round =>
              obtain ⟨j, hj, rfl, rfl, rfl⟩ := hrel
              by_cases h0 : 0 < j
              · obtain ⟨i, rfl⟩ : ∃ i, j = i + 1 := ⟨j - 1, by omega⟩
                have l1 : ((i + 1 : Nat) : Int) - 1 = (i : Int) := by omega
                rw [l1]
                have hi : i < D.data.toList.length := by show i < D.size; omega
                have hdr := dnum_drop hi
                have hle := dnum_le D.data.toList i
                obtain ⟨x, hx⟩ : ∃ x : UInt8, x = D.data.toList[i] := ⟨_, rfl⟩
                have hx2 : D[i]'(by omega) = x := hx.symm
                rw [← hx] at hdr
                have h256 := x.toNat_lt
                obtain ⟨V, hV⟩ : ∃ V, V = dnum (D.data.toList.drop (i + 1)) := ⟨_, rfl⟩
                obtain ⟨V2, hV2⟩ : ∃ V2, V2 = dnum (D.data.toList.drop i) := ⟨_, rfl⟩
                have hs64 := HS64.out
                rw [← hV, ← hV2] at hdr
                rw [← hV2] at hle
                rw [← hV]
                have q1 : (0 : Int) ≤ (i : Int) := by omega
                have q2 : (i : Int) < (m : Int) + 1 := by omega
                have q3 : (i : Int) < (D.size : Int) := by omega
                have q4 : IntKind.i64.wrap ((i : Int) - 1) = (i : Int) - 1 := IntWalk.i64_in _ (by omega)
                have q5 : IntKind.u64.wrap (128 * (V : Int)) = 128 * (V : Int) := IntWalk.u64_in _ (by omega)
                have q6 : IntKind.u64.wrap ((x.toNat : Int) % 128) = (x.toNat : Int) % 128 := IntWalk.u64_in _ (by omega)
                have q7 : IntKind.u64.wrap (128 * (V : Int) + (x.toNat : Int) % 128) = (V2 : Int) := by rw [IntWalk.u64_in _ (by omega)]; omega
                have HV := Lib.hid hV
                have HV2 := Lib.hid hV2
                have HDR := Lib.hid hdr
                clear hx hV hV2 hdr hle hs64 l1
                go_wp2
                go_roundw
                case rel => exact ⟨i, by omega, rfl, by rw [← HV2.out], by first | rfl | trivial⟩
                case measure => simp [intOf]
              · obtain rfl : j = 0 := by omega
                rw [List.drop_zero]
                by_cases hq : most < dnum D.data.toList
                · have HP := HNUM.out
                  rw [if_pos hq] at HP
                  have HP2 := Lib.hid HP
                  obtain ⟨V, hV⟩ : ∃ V, V = dnum D.data.toList := ⟨_, rfl⟩
                  rw [← hV] at hq ⊢
                  have t1 : decide ((most : Int) < (V : Int)) = true := by simp; omega
                  have t2 : decide (most < V) = true := by simp; omega
                  clear HP hV hq
                  go_wp2
                  go_ret2
                  rw [HP2.out]
                  exact ⟨rfl, rfl⟩
                · have HP := HNUM.out
                  rw [if_neg hq] at HP
                  obtain ⟨V, hV⟩ : ∃ V, V = dnum D.data.toList := ⟨_, rfl⟩
                  rw [← hV] at hq HP ⊢
                  have HP2 := Lib.hid HP
                  have t1 : decide ((most : Int) < (V : Int)) = false := by simp; omega
                  have t2 : decide (most < V) = false := by simp; omega
                  clear HP hV hq
                  go_wp2
                  go_ret2
                  rw [HP2.out]
                  exact ⟨rfl, rfl⟩
    · have hm : m = 9 := by omega
      have hx9 : D[9]'(by rw [hsz, hm]; decide) = c := by subst hm; exact hx
      have b36 : decide ((m : Int) + 1 < 10) = false := by first | (simp; done) | (simp; omega) | omega
      have b37 : decide (m + 1 < 10) = false := by first | (simp; done) | (simp; omega) | omega
      have b38 : decide (m < 9) = false := by first | (simp; done) | (simp; omega) | omega
      have b39 : decide ((m : Int) < 9) = false := by first | (simp; done) | (simp; omega) | omega
      have b40 : decide ((m : Int) + 1 = 10) = true := by first | (simp; done) | (simp; omega) | omega
      have b41 : ((m : Int) + 1 == 10) = true := by first | (simp; done) | (simp; omega) | omega
      have b42 : decide (m = 9) = true := by first | (simp; done) | (simp; omega) | omega
      have b43 : (m == 9) = true := by first | (simp; done) | (simp; omega) | omega
      have b44 : decide (m + 1 = 10) = true := by first | (simp; done) | (simp; omega) | omega
      have b45 : decide ((m : Int) + 1 = 0) = false := by first | (simp; done) | (simp; omega) | omega
      have b46 : ((m : Int) + 1 == 0) = false := by first | (simp; done) | (simp; omega) | omega
      by_cases h1 : 1 < c.toNat
      · have b47 : decide ((1 : Int) < (c.toNat : Int)) = true := by first | (simp; done) | (simp; omega) | omega
        have b48 : decide (1 < c.toNat) = true := by first | (simp; done) | (simp; omega) | omega
        have HP : Hid (numP most D.data.toList = (11, 0)) := Lib.hid (by rw [hn, if_neg (by omega), if_pos (.inl ⟨by omega, h1⟩)])
        clear hn h64
        try clear hm
        go_enter Try.func134, Try.ntmps134
        go_wp2
        go_ret2
        rw [HP.out]
        exact ⟨rfl, rfl⟩
      · have b49 : decide ((1 : Int) < (c.toNat : Int)) = false := by first | (simp; done) | (simp; omega) | omega
        have b50 : decide (1 < c.toNat) = false := by first | (simp; done) | (simp; omega) | omega
        by_cases hc0 : c.toNat = 0
        · have b51 : decide ((c.toNat : Int) = 0) = true := by first | (simp; done) | (simp; omega) | omega
          have b52 : decide (c.toNat = 0) = true := by first | (simp; done) | (simp; omega) | omega
          have b53 : ((c.toNat : Int) == 0) = true := by first | (simp; done) | (simp; omega) | omega
          have b54 : (c.toNat == 0) = true := by first | (simp; done) | (simp; omega) | omega
          by_cases hm0 : 0 < m
          · have b55 : decide ((1 : Int) < (m : Int) + 1) = true := by first | (simp; done) | (simp; omega) | omega
            have b56 : decide (0 < m) = true := by first | (simp; done) | (simp; omega) | omega
            have b57 : decide ((0 : Int) < (m : Int)) = true := by first | (simp; done) | (simp; omega) | omega
            have HP : Hid (numP most D.data.toList = (11, 0)) := Lib.hid (by rw [hn, if_neg (by omega), if_pos (.inr ⟨by omega, hc0⟩)])
            clear hn h64 hc0
            try clear hm
            go_enter Try.func134, Try.ntmps134
            go_wp2
            go_ret2
            rw [HP.out]
            exact ⟨rfl, rfl⟩
          · omega
        · have b58 : decide ((c.toNat : Int) = 0) = false := by first | (simp; done) | (simp; omega) | omega
          have b59 : decide (c.toNat = 0) = false := by first | (simp; done) | (simp; omega) | omega
          have b60 : ((c.toNat : Int) == 0) = false := by first | (simp; done) | (simp; omega) | omega
          have b61 : (c.toNat == 0) = false := by first | (simp; done) | (simp; omega) | omega
          by_cases hm0 : 0 < m
          · have b62 : decide ((1 : Int) < (m : Int) + 1) = true := by first | (simp; done) | (simp; omega) | omega
            have b63 : decide (0 < m) = true := by first | (simp; done) | (simp; omega) | omega
            have b64 : decide ((0 : Int) < (m : Int)) = true := by first | (simp; done) | (simp; omega) | omega
            have HNUM := Lib.hid (show numP most D.data.toList = (if most < dnum D.data.toList then (11, 0) else (0, dnum D.data.toList)) by rw [hn, if_neg (by omega), if_neg (by omega)])
            replace h64 := h64 (by omega)
            clear hn
            try clear hc0
            try clear hm
            go_enter Try.func134, Try.ntmps134
            have HS64 := Lib.hid h64
            clear h64
            go_wp2
            go_loopw [7, 8] (fun vv ii w' => ∃ j : Nat, j ≤ m + 1 ∧ ii = .int .i64 ((j : Int) - 1) ∧ vv = .int .u64 (dnum (D.data.toList.drop j)) ∧ w' = w) (fun _ ii _ => (intOf ii + 1).toNat)
            case atStart => exact ⟨m + 1, by omega, by first | rfl | go_num | (congr 1; omega), by rw [List.drop_eq_nil_of_le (by show D.size ≤ _; omega)]; rfl, by first | rfl | trivial⟩
            case round =>
              obtain ⟨j, hj, rfl, rfl, rfl⟩ := hrel
              by_cases h0 : 0 < j
              · obtain ⟨i, rfl⟩ : ∃ i, j = i + 1 := ⟨j - 1, by omega⟩
                have l1 : ((i + 1 : Nat) : Int) - 1 = (i : Int) := by omega
                rw [l1]
                have hi : i < D.data.toList.length := by show i < D.size; omega
                have hdr := dnum_drop hi
                have hle := dnum_le D.data.toList i
                obtain ⟨x, hx⟩ : ∃ x : UInt8, x = D.data.toList[i] := ⟨_, rfl⟩
                have hx2 : D[i]'(by omega) = x := hx.symm
                rw [← hx] at hdr
                have h256 := x.toNat_lt
                obtain ⟨V, hV⟩ : ∃ V, V = dnum (D.data.toList.drop (i + 1)) := ⟨_, rfl⟩
                obtain ⟨V2, hV2⟩ : ∃ V2, V2 = dnum (D.data.toList.drop i) := ⟨_, rfl⟩
                have hs64 := HS64.out
                rw [← hV, ← hV2] at hdr
                rw [← hV2] at hle
                rw [← hV]
                have q1 : (0 : Int) ≤ (i : Int) := by omega
                have q2 : (i : Int) < (m : Int) + 1 := by omega
                have q3 : (i : Int) < (D.size : Int) := by omega
                have q4 : IntKind.i64.wrap ((i : Int) - 1) = (i : Int) - 1 := IntWalk.i64_in _ (by omega)
                have q5 : IntKind.u64.wrap (128 * (V : Int)) = 128 * (V : Int) := IntWalk.u64_in _ (by omega)
                have q6 : IntKind.u64.wrap ((x.toNat : Int) % 128) = (x.toNat : Int) % 128 := IntWalk.u64_in _ (by omega)
                have q7 : IntKind.u64.wrap (128 * (V : Int) + (x.toNat : Int) % 128) = (V2 : Int) := by rw [IntWalk.u64_in _ (by omega)]; omega
                have HV := Lib.hid hV
                have HV2 := Lib.hid hV2
                have HDR := Lib.hid hdr
                clear hx hV hV2 hdr hle hs64 l1
                go_wp2
                go_roundw
                case rel => exact ⟨i, by omega, rfl, by rw [← HV2.out], by first | rfl | trivial⟩
                case measure => simp [intOf]
              · obtain rfl : j = 0 := by omega
                rw [List.drop_zero]
                by_cases hq : most < dnum D.data.toList
                · have HP := HNUM.out
                  rw [if_pos hq] at HP
                  have HP2 := Lib.hid HP
                  obtain ⟨V, hV⟩ : ∃ V, V = dnum D.data.toList := ⟨_, rfl⟩
                  rw [← hV] at hq ⊢
                  have t1 : decide ((most : Int) < (V : Int)) = true := by simp; omega
                  have t2 : decide (most < V) = true := by simp; omega
                  clear HP hV hq
                  go_wp2
                  go_ret2
                  rw [HP2.out]
                  exact ⟨rfl, rfl⟩
                · have HP := HNUM.out
                  rw [if_neg hq] at HP
                  obtain ⟨V, hV⟩ : ∃ V, V = dnum D.data.toList := ⟨_, rfl⟩
                  rw [← hV] at hq HP ⊢
                  have HP2 := Lib.hid HP
                  have t1 : decide ((most : Int) < (V : Int)) = false := by simp; omega
                  have t2 : decide (most < V) = false := by simp; omega
                  clear HP hV hq
                  go_wp2
                  go_ret2
                  rw [HP2.out]
                  exact ⟨rfl, rfl⟩
          · omega

theorem digsL (l : List UInt8) : (⟨l.toArray⟩ : ByteArray).data.toList = l := by simp
set_option maxRecDepth 100000 in
theorem duint_any (g : Nat) (b : ByteArray) (most : Nat) (s : RS) (w : World) (h : Rdd w g b s) (hb : b.size ≤ 140737488355328) (hm : most < 18446744073709551616) :
    Calls Try.prog 119 #[.pointer (some ⟨g, 0, none⟩), .int .u64 most] w fun e w' => e = .returned (.int .u64 (rdU b.data.toList most s).1) ∧ Rdd w' g b (rdU b.data.toList most s).2 ∧ w.grownBy w' (some g) := by
  obtain ⟨n, er⟩ := s
  have c1 : w.cell? ⟨g, 1, none⟩ = some (.int .i64 n) := h.1.cell 1
  have c2 : w.cell? ⟨g, 2, none⟩ = some (.int .i64 er) := h.1.cell 2
  have f1 := h.1.frozen 1
  have H := Lib.hid h
  have hn : n ≤ b.size := h.2
  by_cases he : er = 0
  · subst he
    clear h
    have hdl := digs_len 10 (b.data.toList.drop n)
    obtain ⟨d, hd⟩ : ∃ d, d = digs 10 (b.data.toList.drop n) := ⟨_, rfl⟩
    have HP : Hid (rdU b.data.toList most ⟨n, 0⟩ = if (numP most d).1 = 0 then ((numP most d).2, ⟨n + d.length, 0⟩) else (0, ⟨n, (numP most d).1⟩)) := Lib.hid (by
      rw [rdU, if_pos rfl, uscan_num, ← hd]
      simp only
      split <;> rfl)
    rw [← hd] at hdl
    have hsz : (⟨d.toArray⟩ : ByteArray).size = d.length := by simp [ByteArray.size]
    have hl2 : n + d.length ≤ b.size := by
      have := hdl.2
      rw [List.length_drop] at this
      have e : b.data.toList.length = b.size := rfl
      omega
    have HD := Lib.hid hd
    have HSZ : Hid ((⟨d.toArray⟩ : ByteArray).size ≤ 10) := Lib.hid (by rw [hsz]; exact hdl.1)
    have HR := Lib.hid (rdU_place (b := b.data.toList) (most := most) (s := ⟨n, 0⟩) hn)
    obtain ⟨z, hz⟩ : ∃ z, z = (numP most d).1 := ⟨_, rfl⟩
    obtain ⟨v, hv⟩ : ∃ v, v = (numP most d).2 := ⟨_, rfl⟩
    have HC : Hid (∀ W : World, Calls Try.prog 134 #[.string ⟨d.toArray⟩, .int .u64 most] W fun e w' => e = .returned (.tuple #[.int .u64 v, .int .i64 z]) ∧ W = w') := Lib.hid (fun W => by
      have := number_any ⟨d.toArray⟩ most W HSZ.out hm
      rw [digsL, ← hz, ← hv] at this
      exact this)
    rw [← hz, ← hv] at HP
    clear hd hz hv hsz hdl
    go_enter Try.func119, Try.ntmps119
    go_wp2_with fail
    refine (digits_any g b n _ H.out hb).mono ?_
    rintro e w1 ⟨rfl, hw1⟩
    obtain ⟨m, rfl⟩ := hw1
    rw [← HD.out]
    go_wp2_with fail
    refine (HC.out _).mono ?_
    rintro e w1 ⟨rfl, rfl⟩
    by_cases h0 : z = 0
    · have HP2 := Lib.hid (show rdU b.data.toList most ⟨n, 0⟩ = (v, ⟨n + d.length, 0⟩) by rw [HP.out, if_pos h0])
      subst h0
      have l1 : IntKind.i64.wrap ((n : Int) + (d.length : Int)) = (n : Int) + (d.length : Int) := IntWalk.i64_in _ (by omega)
      have hsz : (⟨d.toArray⟩ : ByteArray).size = d.length := by simp [ByteArray.size]
      go_wp2
      go_ret
      rw [HP2.out]
      exact ⟨rfl, ⟨by exact (H.out.1.drewN _).set_ 1 _, hl2⟩, grown_trans (grown_drewN (grown_refl w _) _) (grown_set 1 _)⟩
    · have HP2 := Lib.hid (show rdU b.data.toList most ⟨n, 0⟩ = (0, ⟨n, z⟩) by rw [HP.out, if_neg h0])
      have q1 : (z != 0) = true := by simpa using h0
      have q2 : decide (z = 0) = false := by simpa using h0
      clear h0
      go_wp2_with fail
      refine (dfail_any g b ⟨n, 0⟩ z _ (H.out.drewN _)).mono ?_
      rintro e w1 ⟨rfl, h1, g1⟩
      have H1 : Hid (Rdd w1 g b ⟨n, z⟩) := Lib.hid h1
      have G1 := Lib.hid (grown_trans (grown_drewN (grown_refl w _) _) g1)
      clear h1 g1
      go_wp2
      go_ret
      rw [HP2.out]
      exact ⟨rfl, H1.out, G1.out⟩
  · have HP : Hid (rdU b.data.toList most ⟨n, er⟩ = (0, ⟨n, er⟩)) := Lib.hid (by rw [rdU, if_neg he])
    have q1 : (er != 0) = true := by simpa using he
    have q2 : decide (er = 0) = false := by simpa using he
    clear he h
    go_enter Try.func119, Try.ntmps119
    go_wp2
    go_ret
    rw [HP.out]
    exact ⟨rfl, H.out, grown_refl w _⟩
theorem dtext_any (g : Nat) (b : ByteArray) (most : Nat) (s : RS) (w : World) (h : Rdd w g b s) (hb : b.size ≤ 140737488355328) (hm : most ≤ 140737488355328) :
    Calls Try.prog 121 #[.pointer (some ⟨g, 0, none⟩), .int .i64 most] w fun e w' => e = .returned (.string ⟨(rdT b.data.toList most s).1.toArray⟩) ∧ Rdd w' g b (rdT b.data.toList most s).2 ∧ w.grownBy w' (some g) := by
  have c1 : w.cell? ⟨g, 1, none⟩ = some (.int .i64 s.n) := h.1.cell 1
  have H := Lib.hid h
  have hn : s.n ≤ b.size := h.2
  have e1 : IntKind.u64.wrap (most : Int) = (most : Int) := IntWalk.u64_in _ (by omega)
  have hle := rdU_le b.data.toList most s
  have e2 : IntKind.i64.wrap ((rdU b.data.toList most s).1 : Int) = ((rdU b.data.toList most s).1 : Int) := IntWalk.i64_in _ (by omega)
  have e3 : decide ((most : Int) < 0) = false := by simp
  have e4 : max (most : Int) 0 = (most : Int) := by omega
  clear h
  go_enter Try.func121, Try.ntmps121
  go_wp2_with fail
  refine (duint_any g b most s _ H.out hb (by omega)).mono ?_
  rintro e w1 ⟨rfl, h1, g1⟩
  have H1 := Lib.hid h1
  have G1 := Lib.hid g1
  clear h1 g1 c1
  go_wp2_with fail
  refine (draw_any g b _ _ _ H1.out hb (by omega)).mono ?_
  rintro e w2 ⟨rfl, h2, g2⟩
  have H2 := Lib.hid h2
  have G2 := Lib.hid (grown_trans G1.out g2)
  have d1 : w2.cell? ⟨g, 1, none⟩ = some (.int .i64 (rdR b.data.toList (rdU b.data.toList most s).1 (rdU b.data.toList most s).2).2.n) := h2.1.cell 1
  obtain ⟨z, hz⟩ : ∃ z, z = (rdR b.data.toList (rdU b.data.toList most s).1 (rdU b.data.toList most s).2).2.e := ⟨_, rfl⟩
  have d3 : w2.cell? ⟨g, 2, none⟩ = some (.int .i64 z) := by rw [hz]; exact h2.1.cell 2
  have d2 := h2.1.frozen 1
  clear h2 g2
  by_cases h0 : z = 0
  · have HP : Hid (rdT b.data.toList most s = rdR b.data.toList (rdU b.data.toList most s).1 (rdU b.data.toList most s).2) := Lib.hid (by rw [rdT, if_pos (by rw [← hz]; exact h0)])
    rw [h0] at d3
    clear h0 hz
    go_wp2
    go_ret
    rw [HP.out]
    exact ⟨rfl, H2.out, G2.out⟩
  · have HP : Hid (rdT b.data.toList most s = ([], ⟨s.n, (rdR b.data.toList (rdU b.data.toList most s).1 (rdU b.data.toList most s).2).2.e⟩)) := Lib.hid (by rw [rdT, if_neg (by rw [← hz]; exact h0)])
    have q1 : (z != 0) = true := by simpa using h0
    have q2 : decide (z = 0) = false := by simpa using h0
    clear h0 hz
    go_wp2
    go_ret
    rw [HP.out]
    exact ⟨rfl, ⟨by exact H2.out.1.set_ 1 _, hn⟩, grown_trans G2.out (grown_set 1 _)⟩
theorem dend_at (g : Nat) (b : ByteArray) (s : RS) (x : Int) (w : World) (h : Rdd w g b s) (hx : endP b.data.toList s = x) :
    Calls Try.prog 87 #[.pointer (some ⟨g, 0, none⟩)] w fun e w' => e = .returned (.int .i64 x) ∧ Drawn w w' := by
  subst hx
  obtain ⟨n, er⟩ := s
  have c0 : w.cell? ⟨g, 0, none⟩ = some (.string b) := h.1.cell 0
  have c1 : w.cell? ⟨g, 1, none⟩ = some (.int .i64 n) := h.1.cell 1
  have c2 : w.cell? ⟨g, 2, none⟩ = some (.int .i64 er) := h.1.cell 2
  have hn : n ≤ b.size := h.2
  clear h
  by_cases he : er = 0
  · by_cases hl : n < b.size
    · have HP : Hid (endP b.data.toList ⟨n, er⟩ = 12) := Lib.hid (by rw [endP, if_pos ⟨he, hl⟩])
      subst he
      have l1 : decide ((n : Int) < (b.size : Int)) = true := by simp; omega
      have l2 : decide (n < b.size) = true := by simp; omega
      go_enter Try.func87, Try.ntmps87
      go_wp2
      go_quiet (fail)
      go_wp2
      go_ret
      exact ⟨by rw [HP.out]; rfl, ⟨_, rfl⟩⟩
    · have HP : Hid (endP b.data.toList ⟨n, er⟩ = 0) := Lib.hid (by rw [endP, if_neg (fun h => hl h.2)]; exact he)
      subst he
      have l1 : decide ((n : Int) < (b.size : Int)) = false := by simp; omega
      have l2 : decide (n < b.size) = false := by simp; omega
      go_enter Try.func87, Try.ntmps87
      go_wp2
      go_quiet (fail)
      go_wp2
      go_ret
      exact ⟨by rw [HP.out]; rfl, ⟨_, rfl⟩⟩
  · have HP : Hid (endP b.data.toList ⟨n, er⟩ = er) := Lib.hid (by rw [endP, if_neg (fun h => he h.1)])
    have e1 : decide (er = 0) = false := by simpa using he
    have e2 : (er == 0) = false := by simpa using he
    clear he
    go_enter Try.func87, Try.ntmps87
    go_wp2
    go_quiet (fail)
    go_wp2
    go_ret
    exact ⟨by rw [HP.out]; rfl, ⟨_, rfl⟩⟩
end Go.Proofs.Ytljfigikkajlnaa
