/- DERIVED. Readers of bytes, in plain terms: a number to the base 128, so many bytes, a text; what was read stood there in its own form. -/
import Derived.Test.YtlmnmlehnigfdaaFrmUint
namespace Go.Proofs.Ytlmnmlehnigfdaa
open Go.RowKit Go.Lib
set_option linter.unusedVariables false
set_option linter.unusedSimpArgs false

def uscan (most : Nat) : List UInt8 → Nat → Nat → Int × Nat × Nat
  | [], _, _ => (10, 0, 0)
  | c :: t, i, v =>
    if i = 9 ∧ 1 < c.toNat then (11, 0, 0)
    else if 128 ≤ c.toNat then uscan most t (i + 1) (v + c.toNat % 128 * 128 ^ i)
    else if (c.toNat = 0 ∧ 0 < i) ∨ most < v + c.toNat % 128 * 128 ^ i then (11, 0, 0)
    else (0, v + c.toNat % 128 * 128 ^ i, i + 1)
def digs : Nat → List UInt8 → List UInt8
  | 0, _ => []
  | _ + 1, [] => []
  | k + 1, c :: t => if c.toNat < 128 then [c] else c :: digs k t
def dnum : List UInt8 → Nat
  | [] => 0
  | c :: t => c.toNat % 128 + 128 * dnum t
def lastN : List UInt8 → Nat
  | [] => 0
  | [c] => c.toNat
  | _ :: c :: t => lastN (c :: t)
def numP (most : Nat) (d : List UInt8) : Int × Nat :=
  if d.length < 10 ∧ (d.length = 0 ∨ 128 ≤ lastN d) then (10, 0)
  else if (d.length = 10 ∧ 1 < lastN d) ∨ (1 < d.length ∧ lastN d = 0) then (11, 0)
  else if most < dnum d then (11, 0) else (0, dnum d)
theorem digs_len : ∀ (k : Nat) (l : List UInt8), (digs k l).length ≤ k ∧ (digs k l).length ≤ l.length
  | 0, _ => by simp [digs]
  | _ + 1, [] => by simp [digs]
  | k + 1, c :: t => by
    have := digs_len k t
    rw [digs]
    split
    · simp
    · simp; omega
theorem lastN_getD : ∀ d : List UInt8, lastN d = (d.getD (d.length - 1) 0).toNat
  | [] => rfl
  | [c] => rfl
  | a :: c :: t => by
    rw [lastN, lastN_getD (c :: t)]
    simp
theorem uscan_gen (most : Nat) : ∀ (l : List UInt8) (i v : Nat), i ≤ 9 → uscan most l i v =
    (if i + (digs (10 - i) l).length < 10 ∧ ((digs (10 - i) l).length = 0 ∨ 128 ≤ lastN (digs (10 - i) l)) then (10, 0, 0)
     else if (i + (digs (10 - i) l).length = 10 ∧ 1 < lastN (digs (10 - i) l)) ∨ (1 < i + (digs (10 - i) l).length ∧ lastN (digs (10 - i) l) = 0) then (11, 0, 0)
     else if most < v + 128 ^ i * dnum (digs (10 - i) l) then (11, 0, 0) else (0, v + 128 ^ i * dnum (digs (10 - i) l), i + (digs (10 - i) l).length))
  | [], i, v, hi => by
    obtain ⟨k, hk⟩ : ∃ k, 10 - i = k + 1 := ⟨9 - i, by omega⟩
    rw [hk, uscan, digs, if_pos ⟨by simp; omega, .inl rfl⟩]
  | c :: t, i, v, hi => by
    obtain ⟨k, hk⟩ : ∃ k, 10 - i = k + 1 := ⟨9 - i, by omega⟩
    rw [hk, uscan, digs]
    by_cases hc : c.toNat < 128
    · rw [if_pos hc]
      simp only [List.length_singleton, lastN, dnum, Nat.mul_zero, Nat.add_zero, Nat.mul_comm (128 ^ i)]
      rw [if_neg (show ¬ 128 ≤ c.toNat by omega)]
      by_cases h1 : i = 9 ∧ 1 < c.toNat
      · rw [if_pos h1, if_neg (by omega), if_pos (.inl (by omega))]
      · rw [if_neg h1]
        by_cases h2 : c.toNat = 0 ∧ 0 < i
        · rw [if_pos (.inl h2), if_neg (by omega), if_pos (.inr (by omega))]
        · rw [if_neg (show ¬ (i + 1 < 10 ∧ (1 = 0 ∨ 128 ≤ c.toNat)) by omega), if_neg (show ¬ (i + 1 = 10 ∧ 1 < c.toNat ∨ 1 < i + 1 ∧ c.toNat = 0) by omega)]
          by_cases h3 : most < v + c.toNat % 128 * 128 ^ i
          · rw [if_pos (.inr h3), if_pos h3]
          · rw [if_neg (by rintro (h | h); exact h2 h; exact h3 h), if_neg h3]
    · rw [if_neg hc, if_pos (show 128 ≤ c.toNat by omega)]
      by_cases h9 : i = 9
      · subst h9
        obtain rfl : k = 0 := by omega
        rw [if_pos ⟨rfl, by omega⟩, digs]
        simp only [List.length_singleton, lastN]
        rw [if_neg (by omega), if_pos (.inl ⟨by first | trivial | omega, by omega⟩)]
      · rw [if_neg (by omega), uscan_gen most t (i + 1) _ (by omega), show 10 - (i + 1) = k by omega]
        match hd : digs k t with
        | [] =>
          simp only [List.length_nil, List.length_singleton, lastN]
          rw [if_pos (show i + 1 < 10 ∧ (1 = 0 ∨ 128 ≤ c.toNat) from ⟨by omega, .inr (by omega)⟩), if_pos ⟨by omega, .inl trivial⟩]
        | x :: d =>
          have e1 : i + (c :: x :: d).length = i + 1 + (x :: d).length := by simp; omega
          have e2 : v + 128 ^ i * dnum (c :: x :: d) = v + c.toNat % 128 * 128 ^ i + 128 ^ (i + 1) * dnum (x :: d) := by
            rw [dnum, Nat.pow_succ, Nat.mul_add, Nat.mul_comm (128 ^ i) (c.toNat % 128), Nat.mul_assoc, Nat.add_assoc]
          rw [e1, e2, lastN]
          simp only [List.length_cons, Nat.succ_ne_zero, false_or, Nat.add_one_ne_zero]
theorem uscan_num (most : Nat) (l : List UInt8) : uscan most l 0 0 = ((numP most (digs 10 l)).1, (numP most (digs 10 l)).2, if (numP most (digs 10 l)).1 = 0 then (digs 10 l).length else 0) := by
  rw [uscan_gen most l 0 0 (by omega)]
  simp only [Nat.zero_add, Nat.pow_zero, Nat.one_mul, Nat.sub_zero, numP]
  split
  · rfl
  · split
    · rfl
    · split
      · rfl
      · rfl

theorem u8_of (c : UInt8) (n : Nat) (h : c.toNat = n) : c = UInt8.ofNat n := by subst h; exact (UInt8.ofNat_toNat).symm
theorem uscan_form (most : Nat) : ∀ (l : List UInt8) (i v r n : Nat), uscan most l i v = (0, r, n) →
    ∃ u, r = v + 128 ^ i * u ∧ i < n ∧ n - i ≤ l.length ∧ l.take (n - i) = uintU u ∧ (0 < i → 0 < u) ∧ r ≤ most
  | [], i, v, r, n, h => by rw [uscan] at h; injection h with h1 _; omega
  | c :: t, i, v, r, n, h => by
    rw [uscan] at h
    have h256 := c.toNat_lt
    split at h
    · injection h with h1 _; omega
    · split at h
      · rename_i hc
        obtain ⟨u, e1, e2, e3, e4, e5, e6⟩ := uscan_form most t (i + 1) _ r n h
        have hu := e5 (by omega)
        refine ⟨c.toNat % 128 + 128 * u, ?_, by omega, by simp; omega, ?_, fun _ => by omega, e6⟩
        · rw [e1, Nat.pow_succ, Nat.mul_add, Nat.mul_comm (128 ^ i) (c.toNat % 128), Nat.mul_assoc, Nat.add_assoc]
        · rw [show n - i = n - (i + 1) + 1 by omega, List.take_succ_cons, e4, uintU_big (v := c.toNat % 128 + 128 * u) (by omega), show (c.toNat % 128 + 128 * u) / 128 = u by omega, show (c.toNat % 128 + 128 * u) % 128 = c.toNat % 128 by omega]
          rw [← u8_of c _ (by omega)]
      · rename_i hc
        split at h
        · injection h with h1 _; omega
        · rename_i h3
          have h4 : v + c.toNat % 128 * 128 ^ i = r ∧ i + 1 = n := by injection h with _ h; injection h with h1 h2; exact ⟨h1, h2⟩
          obtain ⟨rfl, rfl⟩ := h4
          refine ⟨c.toNat, by rw [Nat.mod_eq_of_lt (by omega), Nat.mul_comm], by omega, by simp, ?_, fun hi => ?_, ?_⟩
          · rw [show i + 1 - i = 0 + 1 by omega, List.take_succ_cons, List.take_zero, uintU_small (by omega)]
            exact congrArg (fun x => [x]) (u8_of c _ rfl)
          · refine Nat.pos_of_ne_zero fun h0 => h3 (.inl ⟨h0, hi⟩)
          · exact Nat.le_of_not_lt fun hx => h3 (.inr hx)
theorem pow_9 : 128 ^ 9 = 9223372036854775808 := by decide
theorem uscan_of (most : Nat) (hm : most < 18446744073709551616) (t : List UInt8) : ∀ (u i v : Nat), i ≤ 9 → (0 < i → 0 < u) → v + 128 ^ i * u ≤ most → uscan most (uintU u ++ t) i v = (0, v + 128 ^ i * u, i + (uintU u).length) := by
  intro u
  induction u using Nat.strongRecOn with
  | _ u ih =>
    intro i v h9 hi hle
    have hlast : i = 9 → u ≤ 1 := by
      rintro rfl
      rw [pow_9] at hle; omega
    by_cases hu : u < 128
    · have hc : (UInt8.ofNat u).toNat = u := by rw [UInt8.toNat_ofNat']; omega
      rw [uintU_small hu, List.cons_append, uscan, hc, if_neg (by omega), if_neg (by omega), Nat.mod_eq_of_lt hu, Nat.mul_comm u, if_neg (by omega)]
      rfl
    · have hc : (UInt8.ofNat (u % 128 + 128)).toNat = u % 128 + 128 := by rw [UInt8.toNat_ofNat']; omega
      have h99 : i ≠ 9 := fun e => by have := hlast e; omega
      have e2 : v + (u % 128 + 128) % 128 * 128 ^ i + 128 ^ (i + 1) * (u / 128) = v + 128 ^ i * u := by
        have h1 : (u % 128 + 128) % 128 = u % 128 := by omega
        have h2 : u = u % 128 + 128 * (u / 128) := by omega
        rw [h1, Nat.pow_succ, Nat.mul_assoc, Nat.mul_comm (u % 128), Nat.add_assoc, ← Nat.mul_add, ← h2]
      rw [uintU_big hu, List.cons_append, uscan, hc, if_neg (by omega), if_pos (by omega), ih (u / 128) (by omega) (i + 1) _ (by omega) (fun _ => by omega) (by rw [e2]; exact hle), e2]
      simp; omega

/-- A reader's place and error. -/
structure RS where
  n : Nat
  e : Int
def rdU (b : List UInt8) (most : Nat) (s : RS) : Nat × RS :=
  if s.e = 0 then (if (uscan most (b.drop s.n) 0 0).1 = 0 then ((uscan most (b.drop s.n) 0 0).2.1, ⟨s.n + (uscan most (b.drop s.n) 0 0).2.2, 0⟩) else (0, ⟨s.n, (uscan most (b.drop s.n) 0 0).1⟩)) else (0, s)
def rdR (b : List UInt8) (k : Nat) (s : RS) : List UInt8 × RS :=
  if s.e = 0 then (if b.length - s.n < k then ([], ⟨s.n, 10⟩) else ((b.drop s.n).take k, ⟨s.n + k, 0⟩)) else ([], s)
def rdB (b : List UInt8) (s : RS) : UInt8 × RS := ((rdR b 1 s).1.headD 0, (rdR b 1 s).2)
def rdT (b : List UInt8) (most : Nat) (s : RS) : List UInt8 × RS :=
  if (rdR b (rdU b most s).1 (rdU b most s).2).2.e = 0 then rdR b (rdU b most s).1 (rdU b most s).2 else ([], ⟨s.n, (rdR b (rdU b most s).1 (rdU b most s).2).2.e⟩)
theorem rdU_err {b : List UInt8} {most : Nat} {s : RS} (h : s.e ≠ 0) : rdU b most s = (0, s) := by rw [rdU, if_neg h]
theorem rdR_err {b : List UInt8} {k : Nat} {s : RS} (h : s.e ≠ 0) : rdR b k s = ([], s) := by rw [rdR, if_neg h]
theorem rdB_err {b : List UInt8} {s : RS} (h : s.e ≠ 0) : rdB b s = (0, s) := by rw [rdB, rdR_err h]; rfl
theorem rdT_err {b : List UInt8} {most : Nat} {s : RS} (h : s.e ≠ 0) : rdT b most s = ([], s) := by rw [rdT, rdU_err h, rdR_err h, if_neg h]
/-- What was read: its place lies on, and its bytes are the form. -/
theorem rdU_form {b : List UInt8} {most : Nat} {s : RS} (hs : s.n ≤ b.length) (h : (rdU b most s).2.e = 0) : s.e = 0 ∧ (rdU b most s).1 ≤ most ∧ (rdU b most s).2.n ≤ b.length ∧ b.take (rdU b most s).2.n = b.take s.n ++ uintU (rdU b most s).1 := by
  unfold rdU at h ⊢
  split at h
  · rename_i h0
    split at h
    · rename_i h1
      rw [if_pos h0, if_pos h1]
      rcases hx : uscan most (b.drop s.n) 0 0 with ⟨x, r, n⟩
      rw [hx] at h1
      obtain rfl : x = 0 := h1
      obtain ⟨u, e1, e2, e3, e4, _, e6⟩ := uscan_form most _ 0 0 r n hx
      simp only [Nat.sub_zero, List.length_drop, Nat.zero_add, Nat.pow_zero, Nat.one_mul] at e1 e3 e4
      subst e1
      refine ⟨h0, e6, by show s.n + n ≤ _; omega, ?_⟩
      show b.take (s.n + n) = b.take s.n ++ uintU r
      rw [List.take_add, e4]
    · rename_i h1
      exact absurd h h1
  · rename_i h0
    exact absurd h h0
theorem rdU_le (b : List UInt8) (most : Nat) (s : RS) : (rdU b most s).1 ≤ most := by
  unfold rdU
  split
  · split
    · rename_i h1
      rcases hx : uscan most (b.drop s.n) 0 0 with ⟨x, r, n⟩
      rw [hx] at h1
      obtain rfl : x = 0 := h1
      obtain ⟨u, e1, e2, e3, e4, _, e6⟩ := uscan_form most _ 0 0 r n hx
      exact e6
    · exact Nat.zero_le _
  · exact Nat.zero_le _
theorem rdU_place {b : List UInt8} {most : Nat} {s : RS} (hs : s.n ≤ b.length) : (rdU b most s).2.n ≤ b.length := by
  by_cases h : (rdU b most s).2.e = 0
  · exact (rdU_form hs h).2.2.1
  · unfold rdU at h ⊢
    split
    · rename_i h0
      rw [if_pos h0] at h
      split
      · rename_i h1; rw [if_pos h1] at h; exact absurd rfl h
      · exact hs
    · exact hs
theorem rdR_form {b : List UInt8} {k : Nat} {s : RS} (hs : s.n ≤ b.length) (h : (rdR b k s).2.e = 0) : s.e = 0 ∧ (rdR b k s).1.length = k ∧ (rdR b k s).2.n = s.n + k ∧ s.n + k ≤ b.length ∧ b.take (rdR b k s).2.n = b.take s.n ++ (rdR b k s).1 := by
  unfold rdR at h ⊢
  split at h
  · rename_i h0
    split at h
    · exact absurd (show (10 : Int) = 0 from h) (by decide)
    · rename_i h1
      rw [if_pos h0, if_neg h1]
      exact ⟨h0, by simp; omega, rfl, by omega, List.take_add⟩
  · rename_i h0
    exact absurd h h0
theorem rdR_place {b : List UInt8} {k : Nat} {s : RS} (hs : s.n ≤ b.length) : (rdR b k s).2.n ≤ b.length := by
  by_cases h : (rdR b k s).2.e = 0
  · have := rdR_form hs h; omega
  · unfold rdR at h ⊢
    split
    · split
      · exact hs
      · rename_i h0 h1; rw [if_pos h0, if_neg h1] at h; exact absurd rfl h
    · exact hs
theorem rdR_len {b : List UInt8} {k : Nat} {s : RS} : (rdR b k s).1.length ≤ k := by
  unfold rdR
  split
  · split
    · simp
    · simp; omega
  · simp
theorem rdB_form {b : List UInt8} {s : RS} (hs : s.n ≤ b.length) (h : (rdB b s).2.e = 0) : s.e = 0 ∧ (rdB b s).2.n ≤ b.length ∧ b.take (rdB b s).2.n = b.take s.n ++ [(rdB b s).1] := by
  obtain ⟨h1, h2, h3, h4, h5⟩ := rdR_form (k := 1) hs h
  refine ⟨h1, by show (rdR b 1 s).2.n ≤ _; omega, ?_⟩
  show b.take (rdR b 1 s).2.n = _ ++ [(rdR b 1 s).1.headD 0]
  rw [h5]
  match hx : (rdR b 1 s).1 with
  | [] => rw [hx] at h2; simp at h2
  | [c] => rfl
  | _ :: _ :: _ => rw [hx] at h2; simp at h2
theorem rdT_form {b : List UInt8} {most : Nat} {s : RS} (hs : s.n ≤ b.length) (h : (rdT b most s).2.e = 0) : s.e = 0 ∧ (rdT b most s).1.length ≤ most ∧ (rdT b most s).2.n ≤ b.length ∧ b.take (rdT b most s).2.n = b.take s.n ++ textU ⟨(rdT b most s).1.toArray⟩ := by
  unfold rdT at h ⊢
  split at h
  · rename_i h0
    rw [if_pos h0]
    obtain ⟨h1, h2, h3, h4, h5⟩ := rdR_form (rdU_place hs) h0
    obtain ⟨g1, g2, g3, g4⟩ := rdU_form hs h1
    refine ⟨g1, by rw [h2]; exact g2, by omega, ?_⟩
    rw [h5, g4, textU, List.append_assoc]
    have e1 : (⟨(rdR b (rdU b most s).1 (rdU b most s).2).1.toArray⟩ : ByteArray).size = (rdU b most s).1 := Eq.trans (by simp [ByteArray.size]) h2
    rw [e1]
  · rename_i h0
    exact absurd h h0
theorem rdT_place {b : List UInt8} {most : Nat} {s : RS} (hs : s.n ≤ b.length) : (rdT b most s).2.n ≤ b.length := by
  by_cases h : (rdT b most s).2.e = 0
  · exact (rdT_form hs h).2.2.1
  · unfold rdT at h ⊢
    split
    · rename_i h0; rw [if_pos h0] at h; exact absurd h0 h
    · exact hs
theorem rdT_len {b : List UInt8} {most : Nat} {s : RS} : (rdT b most s).1.length ≤ most := by
  unfold rdT
  split
  · exact Nat.le_trans rdR_len (rdU_le _ _ _)
  · simp
theorem rdB_place {b : List UInt8} {s : RS} (hs : s.n ≤ b.length) : (rdB b s).2.n ≤ b.length := rdR_place (k := 1) hs
/-- What stands there in its form is read. -/
theorem rdU_of {b t : List UInt8} {most n u : Nat} (hm : most < 18446744073709551616) (hb : b.drop n = uintU u ++ t) (hu : u ≤ most) : rdU b most ⟨n, 0⟩ = (u, ⟨n + (uintU u).length, 0⟩) := by
  have h := uscan_of most hm t u 0 0 (by omega) (by omega) (by simpa using hu)
  simp only [Nat.pow_zero, Nat.one_mul, Nat.zero_add] at h
  rw [rdU, if_pos rfl]
  show (if (uscan most (b.drop n) 0 0).1 = 0 then _ else _) = _
  rw [hb, h]
  rfl
theorem rdR_of {b t x : List UInt8} {n : Nat} (hb : b.drop n = x ++ t) : rdR b x.length ⟨n, 0⟩ = (x, ⟨n + x.length, 0⟩) := by
  have h1 : x.length ≤ b.length - n := by
    have := congrArg List.length hb
    rw [List.length_drop, List.length_append] at this; omega
  rw [rdR, if_pos rfl, if_neg (by show ¬ b.length - n < _; omega)]
  show ((b.drop n).take x.length, _) = _
  rw [hb, List.take_left]
theorem rdB_of {b t : List UInt8} {c : UInt8} {n : Nat} (hb : b.drop n = c :: t) : rdB b ⟨n, 0⟩ = (c, ⟨n + 1, 0⟩) := by
  have := rdR_of (x := [c]) (t := t) hb
  rw [rdB, show (1 : Nat) = [c].length from rfl, this]
  rfl
theorem drop_more {b x t : List UInt8} {n : Nat} (hb : b.drop n = x ++ t) : b.drop (n + x.length) = t := by
  rw [← List.drop_drop, hb, List.drop_left]
theorem rdT_of {b t : List UInt8} {v : ByteArray} {most n : Nat} (hm : most < 18446744073709551616) (hb : b.drop n = textU v ++ t) (hv : v.size ≤ most) : rdT b most ⟨n, 0⟩ = (v.data.toList, ⟨n + (textU v).length, 0⟩) := by
  rw [textU, List.append_assoc] at hb
  have h1 := rdU_of hm hb hv
  have h2 := rdR_of (drop_more hb)
  have e1 : v.data.toList.length = v.size := rfl
  rw [e1] at h2
  rw [rdT, h1]
  rw [h2, if_pos rfl]
  rw [textU, List.length_append, e1, Nat.add_assoc]
end Go.Proofs.Ytlmnmlehnigfdaa
