/- DERIVED. Readers of bytes, in plain terms: a number to the base 128, so many bytes, a text; what was read stood there in its own form. -/
import Derived.Test.YtljfigikkajlnaaVm6
namespace Go.Proofs.Ytljfigikkajlnaa
open Go.RowKit Go.Lib
set_option linter.unusedVariables false
set_option linter.unusedSimpArgs false
def uscan (most : Nat) : List UInt8 → Nat → Nat → Int × Nat × Nat
 | [], _, _ => (10, 0, 0)
 | c :: t, i, v =>
  if i = 9 ∧ 1 < c.toNat then (11, 0, 0)
  else if 128 ≤ c.toNat then uscan most t (i + 1) (v + c.toNat % 128 * 128 ^ i)
  else if (c.toNat = 0 ∧ 0 < i) ∨ most < v + c.toNat % 128 * 128 ^ i then (11, 0, 0)
  else (0, v + c.toNat % 128 * 128 ^ i, i + 1)
theorem u8_of (c : UInt8) (n : Nat) (h : c.toNat = n) : c = UInt8.ofNat n := by subst h; exact (UInt8.ofNat_toNat).symm
theorem uscan_form (most : Nat) : ∀ (l : List UInt8) (i v r n : Nat), uscan most l i v = (0, r, n) →
 ∃ u, r = v + 128 ^ i * u ∧ i < n ∧ n - i ≤ l.length ∧ l.take (n - i) = uintU u ∧ (0 < i → 0 < u) ∧ r ≤ most
 | [], i, v, r, n, h => by rw [uscan] at h; injection h with h1 _; omega
 | c :: t, i, v, r, n, h => by
  rw [uscan] at h
  have h256 := c.toNat_lt
  split at h
  · injection h with h1 _; omega
  · split at h
    · rename_i hc
      obtain ⟨u, e1, e2, e3, e4, e5, e6⟩ := uscan_form most t (i + 1) _ r n h
      have hu := e5 (by omega)
      refine ⟨c.toNat % 128 + 128 * u, ?_, by omega, by simp; omega, ?_, fun _ => by omega, e6⟩
      · rw [e1, Nat.pow_succ, Nat.mul_add, Nat.mul_comm (128 ^ i) (c.toNat % 128), Nat.mul_assoc, Nat.add_assoc]
      · rw [show n - i = n - (i + 1) + 1 by omega, List.take_succ_cons, e4, uintU_big (v := c.toNat % 128 + 128 * u) (by omega), show (c.toNat % 128 + 128 * u) / 128 = u by omega, show (c.toNat % 128 + 128 * u) % 128 = c.toNat % 128 by omega]
        rw [← u8_of c _ (by omega)]
    · rename_i hc
      split at h
      · injection h with h1 _; omega
      · rename_i h3
        have h4 : v + c.toNat % 128 * 128 ^ i = r ∧ i + 1 = n := by injection h with _ h; injection h with h1 h2; exact ⟨h1, h2⟩
        obtain ⟨rfl, rfl⟩ := h4
        refine ⟨c.toNat, by rw [Nat.mod_eq_of_lt (by omega), Nat.mul_comm], by omega, by simp, ?_, fun hi => ?_, ?_⟩
        · rw [show i + 1 - i = 0 + 1 by omega, List.take_succ_cons, List.take_zero, uintU_small (by omega)]
          exact congrArg (fun x => [x]) (u8_of c _ rfl)
        · refine Nat.pos_of_ne_zero fun h0 => h3 (.inl ⟨h0, hi⟩)
        · exact Nat.le_of_not_lt fun hx => h3 (.inr hx)
theorem pow_9 : 128 ^ 9 = 9223372036854775808 := by decide
theorem uscan_of (most : Nat) (hm : most < 18446744073709551616) (t : List UInt8) : ∀ (u i v : Nat), i ≤ 9 → (0 < i → 0 < u) → v + 128 ^ i * u ≤ most → uscan most (uintU u ++ t) i v = (0, v + 128 ^ i * u, i + (uintU u).length) := by
 intro u
 induction u using Nat.strongRecOn with
 | _ u ih =>
  intro i v h9 hi hle
  have hlast : i = 9 → u ≤ 1 := by
   rintro rfl
   rw [pow_9] at hle; omega
  by_cases hu : u < 128
  · have hc : (UInt8.ofNat u).toNat = u := by rw [UInt8.toNat_ofNat']; omega
    rw [uintU_small hu, List.cons_append, uscan, hc, if_neg (by omega), if_neg (by omega), Nat.mod_eq_of_lt hu, Nat.mul_comm u, if_neg (by omega)]
    rfl
  · have hc : (UInt8.ofNat (u % 128 + 128)).toNat = u % 128 + 128 := by rw [UInt8.toNat_ofNat']; omega
    have h99 : i ≠ 9 := fun e => by have := hlast e; omega
    have e2 : v + (u % 128 + 128) % 128 * 128 ^ i + 128 ^ (i + 1) * (u / 128) = v + 128 ^ i * u := by
     have h1 : (u % 128 + 128) % 128 = u % 128 := by omega
     have h2 : u = u % 128 + 128 * (u / 128) := by omega
     rw [h1, Nat.pow_succ, Nat.mul_assoc, Nat.mul_comm (u % 128), Nat.add_assoc, ← Nat.mul_add, ← h2]
    rw [uintU_big hu, List.cons_append, uscan, hc, if_neg (by omega), if_pos (by omega), ih (u / 128) (by omega) (i + 1) _ (by omega) (fun _ => by omega) (by rw [e2]; exact hle), e2]
    simp; omega
/-- A reader's place and error. -/
structure RS where
 n : Nat
 e : Int
def rdU (b : List UInt8) (most : Nat) (s : RS) : Nat × RS :=
 if s.e = 0 then (if (uscan most (b.drop s.n) 0 0).1 = 0 then ((uscan most (b.drop s.n) 0 0).2.1, ⟨s.n + (uscan most (b.drop s.n) 0 0).2.2, 0⟩) else (0, ⟨s.n, (uscan most (b.drop s.n) 0 0).1⟩)) else (0, s)
def rdR (b : List UInt8) (k : Nat) (s : RS) : List UInt8 × RS :=
 if s.e = 0 then (if b.length - s.n < k then ([], ⟨s.n, 10⟩) else ((b.drop s.n).take k, ⟨s.n + k, 0⟩)) else ([], s)
def rdB (b : List UInt8) (s : RS) : UInt8 × RS := ((rdR b 1 s).1.headD 0, (rdR b 1 s).2)
def rdT (b : List UInt8) (most : Nat) (s : RS) : List UInt8 × RS :=
 if (rdR b (rdU b most s).1 (rdU b most s).2).2.e = 0 then rdR b (rdU b most s).1 (rdU b most s).2 else ([], ⟨s.n, (rdR b (rdU b most s).1 (rdU b most s).2).2.e⟩)
theorem rdU_err {b : List UInt8} {most : Nat} {s : RS} (h : s.e ≠ 0) : rdU b most s = (0, s) := by rw [rdU, if_neg h]
/-- What was read: its place lies on, and its bytes are the form. -/
theorem rdU_form {b : List UInt8} {most : Nat} {s : RS} (hs : s.n ≤ b.length) (h : (rdU b most s).2.e = 0) : s.e = 0 ∧ (rdU b most s).1 ≤ most ∧ (rdU b most s).2.n ≤ b.length ∧ b.take (rdU b most s).2.n = b.take s.n ++ uintU (rdU b most s).1 := by
 unfold rdU at h ⊢
 split at h
 · rename_i h0
   split at h
   · rename_i h1
     rw [if_pos h0, if_pos h1]
     rcases hx : uscan most (b.drop s.n) 0 0 with ⟨x, r, n⟩
     rw [hx] at h1
     obtain rfl : x = 0 := h1
     obtain ⟨u, e1, e2, e3, e4, _, e6⟩ := uscan_form most _ 0 0 r n hx
     simp only [Nat.sub_zero, List.length_drop, Nat.zero_add, Nat.pow_zero, Nat.one_mul] at e1 e3 e4
     subst e1
     refine ⟨h0, e6, by show s.n + n ≤ _; omega, ?_⟩
     show b.take (s.n + n) = b.take s.n ++ uintU r
     rw [List.take_add, e4]
   · rename_i h1
     exact absurd h h1
 · rename_i h0
   exact absurd h h0
theorem rdU_le (b : List UInt8) (most : Nat) (s : RS) : (rdU b most s).1 ≤ most := by
 unfold rdU
 split
 · split
   · rename_i h1
     rcases hx : uscan most (b.drop s.n) 0 0 with ⟨x, r, n⟩
     rw [hx] at h1
     obtain rfl : x = 0 := h1
     obtain ⟨u, e1, e2, e3, e4, _, e6⟩ := uscan_form most _ 0 0 r n hx
     exact e6
   · exact Nat.zero_le _
 · exact Nat.zero_le _
theorem rdU_place {b : List UInt8} {most : Nat} {s : RS} (hs : s.n ≤ b.length) : (rdU b most s).2.n ≤ b.length := by
 by_cases h : (rdU b most s).2.e = 0
 · exact (rdU_form hs h).2.2.1
 · unfold rdU at h ⊢
   split
   · rename_i h0
     rw [if_pos h0] at h
     split
     · rename_i h1; rw [if_pos h1] at h; exact absurd rfl h
     · exact hs
   · exact hs
theorem rdR_form {b : List UInt8} {k : Nat} {s : RS} (hs : s.n ≤ b.length) (h : (rdR b k s).2.e = 0) : s.e = 0 ∧ (rdR b k s).1.length = k ∧ (rdR b k s).2.n = s.n + k ∧ s.n + k ≤ b.length ∧ b.take (rdR b k s).2.n = b.take s.n ++ (rdR b k s).1 := by
 unfold rdR at h ⊢
 split at h
 · rename_i h0
   split at h
   · exact absurd (show (10 : Int) = 0 from h) (by decide)
   · rename_i h1
     rw [if_pos h0, if_neg h1]
     exact ⟨h0, by simp; omega, rfl, by omega, List.take_add⟩
 · rename_i h0
   exact absurd h h0
theorem rdR_place {b : List UInt8} {k : Nat} {s : RS} (hs : s.n ≤ b.length) : (rdR b k s).2.n ≤ b.length := by
 by_cases h : (rdR b k s).2.e = 0
 · have := rdR_form hs h; omega
 · unfold rdR at h ⊢
   split
   · split
     · exact hs
     · rename_i h0 h1; rw [if_pos h0, if_neg h1] at h; exact absurd rfl h
   · exact hs
theorem rdR_len {b : List UInt8} {k : Nat} {s : RS} : (rdR b k s).1.length ≤ k := by
 unfold rdR
 split
 · split
   · simp
   · simp; omega
 · simp
theorem rdB_form {b : List UInt8} {s : RS} (hs : s.n ≤ b.length) (h : (rdB b s).2.e = 0) : s.e = 0 ∧ (rdB b s).2.n ≤ b.length ∧ b.take (rdB b s).2.n = b.take s.n ++ [(rdB b s).1] := by
 obtain ⟨h1, h2, h3, h4, h5⟩ := rdR_form (k := 1) hs h
 refine ⟨h1, by show (rdR b 1 s).2.n ≤ _; omega, ?_⟩
 show b.take (rdR b 1 s).2.n = _ ++ [(rdR b 1 s).1.headD 0]
 rw [h5]
 match hx : (rdR b 1 s).1 with
 | [] => rw [hx] at h2; simp at h2
 | [c] => rfl
 | _ :: _ :: _ => rw [hx] at h2; simp at h2
theorem rdT_form {b : List UInt8} {most : Nat} {s : RS} (hs : s.n ≤ b.length) (h : (rdT b most s).2.e = 0) : s.e = 0 ∧ (rdT b most s).1.length ≤ most ∧ (rdT b most s).2.n ≤ b.length ∧ b.take (rdT b most s).2.n = b.take s.n ++ textU ⟨(rdT b most s).1.toArray⟩ := by
 unfold rdT at h ⊢
 split at h
 · rename_i h0
   rw [if_pos h0]
   obtain ⟨h1, h2, h3, h4, h5⟩ := rdR_form (rdU_place hs) h0
   obtain ⟨g1, g2, g3, g4⟩ := rdU_form hs h1
   refine ⟨g1, by rw [h2]; exact g2, by omega, ?_⟩
   rw [h5, g4, textU, List.append_assoc]
   have e1 : (⟨(rdR b (rdU b most s).1 (rdU b most s).2).1.toArray⟩ : ByteArray).size = (rdU b most s).1 := Eq.trans (by simp [ByteArray.size]) h2
   rw [e1]
 · rename_i h0
   exact absurd h h0
theorem rdT_place {b : List UInt8} {most : Nat} {s : RS} (hs : s.n ≤ b.length) : (rdT b most s).2.n ≤ b.length := by
 by_cases h : (rdT b most s).2.e = 0
 · exact (rdT_form hs h).2.2.1
 · unfold rdT at h ⊢
   split
   · rename_i h0; rw [if_pos h0] at h; exact absurd h0 h
   · exact hs
theorem rdT_len {b : List UInt8} {most : Nat} {s : RS} : (rdT b most s).1.length ≤ most := by
 unfold rdT
 split
 · exact Nat.le_trans rdR_len (rdU_le _ _ _)
 · simp
theorem rdB_place {b : List UInt8} {s : RS} (hs : s.n ≤ b.length) : (rdB b s).2.n ≤ b.length := rdR_place (k := 1) hs
/-- What stands there in its form is read. -/
theorem rdU_of {b t : List UInt8} {most n u : Nat} (hm : most < 18446744073709551616) (hb : b.drop n = uintU u ++ t) (hu : u ≤ most) : rdU b most ⟨n, 0⟩ = (u, ⟨n + (uintU u).length, 0⟩) := by
 have h := uscan_of most hm t u 0 0 (by omega) (by omega) (by simpa using hu)
 simp only [Nat.pow_zero, Nat.one_mul, Nat.zero_add] at h
 rw [rdU, if_pos rfl]
 show (if (uscan most (b.drop n) 0 0).1 = 0 then _ else _) = _
 rw [hb, h]
 rfl
theorem rdR_of {b t x : List UInt8} {n : Nat} (hb : b.drop n = x ++ t) : rdR b x.length ⟨n, 0⟩ = (x, ⟨n + x.length, 0⟩) := by
 have h1 : x.length ≤ b.length - n := by
  have := congrArg List.length hb
  rw [List.length_drop, List.length_append] at this; omega
 rw [rdR, if_pos rfl, if_neg (by show ¬ b.length - n < _; omega)]
 show ((b.drop n).take x.length, _) = _
 rw [hb, List.take_left]
theorem rdB_of {b t : List UInt8} {c : UInt8} {n : Nat} (hb : b.drop n = c :: t) : rdB b ⟨n, 0⟩ = (c, ⟨n + 1, 0⟩) := by
 have := rdR_of (x := [c]) (t := t) hb
 rw [rdB, show (1 : Nat) = [c].length from rfl, this]
 rfl
theorem drop_more {b x t : List UInt8} {n : Nat} (hb : b.drop n = x ++ t) : b.drop (n + x.length) = t := by
 rw [← List.drop_drop, hb, List.drop_left]
theorem rdT_of {b t : List UInt8} {v : ByteArray} {most n : Nat} (hm : most < 18446744073709551616) (hb : b.drop n = textU v ++ t) (hv : v.size ≤ most) : rdT b most ⟨n, 0⟩ = (v.data.toList, ⟨n + (textU v).length, 0⟩) := by
 rw [textU, List.append_assoc] at hb
 have h1 := rdU_of hm hb hv
 have h2 := rdR_of (drop_more hb)
 have e1 : v.data.toList.length = v.size := rfl
 rw [e1] at h2
 rw [rdT, h1]
 rw [h2, if_pos rfl]
 rw [textU, List.length_append, e1, Nat.add_assoc]
end Go.Proofs.Ytljfigikkajlnaa
