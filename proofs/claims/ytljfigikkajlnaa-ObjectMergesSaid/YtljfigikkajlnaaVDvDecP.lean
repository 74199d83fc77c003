/- DERIVED. Decode of a state in plain terms: what is read has the bytes as its form, and the other way round. -/
import Derived.Test.YtljfigikkajlnaaVDvEnc
import Derived.Test.YtljfigikkajlnaaVRdP
namespace Go.Proofs.Ytljfigikkajlnaa
open Go.RowKit Go.Lib
set_option linter.unusedVariables false
set_option linter.unusedSimpArgs false
def rdDots (b : List UInt8) : Nat → List Dot → RS → List Dot × RS
 | 0, acc, s => (acc, s)
 | k + 1, acc, s => rdDots b k (acc ++ [⟨(rdU b 4294967295 s).1, (rdU b 1099511627776 (rdU b 4294967295 s).2).1⟩]) (rdU b 1099511627776 (rdU b 4294967295 s).2).2
def takeV (b : List UInt8) (s : RS) : List Dot × RS :=
 if (rdDots b (rdU b 64 s).1 [] (rdU b 64 s).2).2.e = 0 then
  (if vecB (rdDots b (rdU b 64 s).1 [] (rdU b 64 s).2).1 then rdDots b (rdU b 64 s).1 [] (rdU b 64 s).2 else ([], ⟨(rdDots b (rdU b 64 s).1 [] (rdU b 64 s).2).2.n, 100⟩))
 else ([], (rdDots b (rdU b 64 s).1 [] (rdU b 64 s).2).2)
structure SR where
 x : Sib
 g : UInt8
def rdA (b : List UInt8) (s : RS) : Nat × RS := rdU b 4294967295 s
def rdC (b : List UInt8) (s : RS) : Nat × RS := rdU b 1099511627776 (rdA b s).2
def rdG (b : List UInt8) (s : RS) : UInt8 × RS := rdB b (rdC b s).2
def rdV (b : List UInt8) (s : RS) : List UInt8 × RS := rdT b 40 (rdG b s).2
def rdSib (b : List UInt8) (s : RS) : SR × RS := (⟨⟨⟨(rdA b s).1, (rdC b s).1⟩, (rdG b s).1 == 1, ⟨(rdV b s).1.toArray⟩⟩, (rdG b s).1⟩, (rdV b s).2)
def rdSibs (b : List UInt8) : Nat → List SR → RS → List SR × RS
 | 0, acc, s => (acc, s)
 | k + 1, acc, s => rdSibs b k (acc ++ [(rdSib b s).1]) (rdSib b s).2
def srL (l : List SR) : List Sib := l.map SR.x
def srOk (l : List SR) : Bool := l.all fun x => decide (x.g.toNat ≤ 1)
def takeN (b : List UInt8) : Nat × RS := rdU b 64 (takeV b ⟨0, 0⟩).2
def takeS (b : List UInt8) : List SR × RS := rdSibs b (takeN b).1 [] (takeN b).2
def decB (b : List UInt8) : Bool := srOk (takeS b).1 && decide ((takeS b).2.e = 0 ∧ (takeS b).2.n = b.length) && staB (takeV b ⟨0, 0⟩).1 (srL (takeS b).1)
def decA (b : List UInt8) : List Dot := if decB b then (takeV b ⟨0, 0⟩).1 else []
def decL (b : List UInt8) : List Sib := if decB b then srL (takeS b).1 else []
def decE (b : List UInt8) : Int := if decB b then 0 else 110
def rawU (x : SR) : List UInt8 := dotU x.x.d ++ [x.g] ++ textU x.x.v
theorem rdDots_err (b : List UInt8) : ∀ (k : Nat) (acc : List Dot) (s : RS), s.e ≠ 0 → (rdDots b k acc s).2 = s
 | 0, _, _, _ => rfl
 | k + 1, acc, s, h => by rw [rdDots, rdU_err h, rdU_err h]; exact rdDots_err b k _ s h
theorem rdDots_len (b : List UInt8) : ∀ (k : Nat) (acc : List Dot) (s : RS), (rdDots b k acc s).1.length = acc.length + k
 | 0, _, _ => rfl
 | k + 1, acc, s => by rw [rdDots, rdDots_len]; simp; omega
def DotIn (d : Dot) : Prop := 0 ≤ d.a ∧ d.a ≤ 4294967295 ∧ 0 ≤ d.n ∧ d.n ≤ 1099511627776
theorem rdDots_in (b : List UInt8) : ∀ (k : Nat) (acc : List Dot) (s : RS), (∀ d ∈ acc, DotIn d) → ∀ d ∈ (rdDots b k acc s).1, DotIn d
 | 0, _, _, h => h
 | k + 1, acc, s, h => by
  rw [rdDots]
  refine rdDots_in b k _ _ fun d hd => ?_
  rcases List.mem_append.1 hd with hd | hd
  · exact h d hd
  · rw [List.mem_singleton] at hd
    subst hd
    have h1 := rdU_le b 4294967295 s
    have h2 := rdU_le b 1099511627776 (rdU b 4294967295 s).2
    exact ⟨by show (0 : Int) ≤ ((rdU b 4294967295 s).1 : Int); omega, by show ((rdU b 4294967295 s).1 : Int) ≤ _; omega, by show (0 : Int) ≤ ((rdU b 1099511627776 (rdU b 4294967295 s).2).1 : Int); omega, by show ((rdU b 1099511627776 (rdU b 4294967295 s).2).1 : Int) ≤ _; omega⟩
theorem rdDots_place (b : List UInt8) : ∀ (k : Nat) (acc : List Dot) (s : RS), s.n ≤ b.length → (rdDots b k acc s).2.n ≤ b.length
 | 0, _, _, h => h
 | k + 1, acc, s, h => by rw [rdDots]; exact rdDots_place b k _ _ (rdU_place (rdU_place h))
theorem rdDots_form (b : List UInt8) : ∀ (k : Nat) (acc : List Dot) (s : RS), s.n ≤ b.length → (rdDots b k acc s).2.e = 0 →
 s.e = 0 ∧ ∃ l, (rdDots b k acc s).1 = acc ++ l ∧ l.length = k ∧ b.take (rdDots b k acc s).2.n = b.take s.n ++ l.flatMap dotU
 | 0, acc, s, _, h => ⟨h, [], by simp [rdDots], rfl, by simp [rdDots]⟩
 | k + 1, acc, s, hs, h => by
  rw [rdDots] at h ⊢
  obtain ⟨h1, l, e1, e2, e3⟩ := rdDots_form b k _ _ (rdU_place (rdU_place hs)) h
  obtain ⟨h2, _, _, e4⟩ := rdU_form (rdU_place hs) h1
  obtain ⟨h3, _, _, e5⟩ := rdU_form hs h2
  refine ⟨h3, _ :: l, by rw [e1, List.append_assoc]; rfl, by rw [List.length_cons, e2], ?_⟩
  rw [e3, e4, e5, List.flatMap_cons, dotU]
  simp only [List.append_assoc, Int.toNat_natCast]
theorem takeV_place {b : List UInt8} {s : RS} (hs : s.n ≤ b.length) : (takeV b s).2.n ≤ b.length := by
 have h := rdDots_place b (rdU b 64 s).1 [] _ (rdU_place (most := 64) hs)
 unfold takeV
 split
 · split
   · exact h
   · exact h
 · exact h
theorem takeV_form {b : List UInt8} {s : RS} (hs : s.n ≤ b.length) (h : (takeV b s).2.e = 0) : s.e = 0 ∧ vecB (takeV b s).1 = true ∧ b.take (takeV b s).2.n = b.take s.n ++ vecU (takeV b s).1 := by
 unfold takeV at h ⊢
 split at h
 · rename_i h0
   rw [if_pos h0]
   split at h
   · rename_i h1
     rw [if_pos h1]
     obtain ⟨g1, l, e1, e2, e3⟩ := rdDots_form b _ [] _ (rdU_place hs) h0
     obtain ⟨g2, _, _, e4⟩ := rdU_form hs g1
     refine ⟨g2, h1, ?_⟩
     rw [e3, e4, e1, vecU, List.nil_append, e2, List.append_assoc]
   · exact absurd (show (100 : Int) = 0 from h) (by decide)
 · rename_i h0
   exact absurd h h0
theorem takeV_in (b : List UInt8) (s : RS) : ∀ d ∈ (takeV b s).1, DotIn d := by
 unfold takeV
 split
 · split
   · exact rdDots_in b _ [] _ (fun d hd => by cases hd)
   · intro d hd; cases hd
 · intro d hd; cases hd
theorem takeV_len (b : List UInt8) (s : RS) : (takeV b s).1.length ≤ 64 := by
 have h1 := rdDots_len b (rdU b 64 s).1 [] (rdU b 64 s).2
 have h2 := rdU_le b 64 s
 unfold takeV
 split
 · split
   · simp at h1; omega
   · simp
 · simp
theorem rdSib_place {b : List UInt8} {s : RS} (hs : s.n ≤ b.length) : (rdSib b s).2.n ≤ b.length := rdT_place (rdB_place (rdU_place (rdU_place hs)))
theorem rdSib_form {b : List UInt8} {s : RS} (hs : s.n ≤ b.length) (h : (rdSib b s).2.e = 0) : s.e = 0 ∧ b.take (rdSib b s).2.n = b.take s.n ++ rawU (rdSib b s).1 := by
 have q1 : (rdA b s).2.n ≤ b.length := rdU_place (most := 4294967295) hs
 have q2 : (rdC b s).2.n ≤ b.length := rdU_place (most := 1099511627776) q1
 have q3 : (rdG b s).2.n ≤ b.length := rdB_place q2
 obtain ⟨h1, _, _, e1⟩ := rdT_form q3 h
 obtain ⟨h2, _, e2⟩ := rdB_form q2 h1
 obtain ⟨h3, _, _, e3⟩ := rdU_form q1 h2
 obtain ⟨h4, _, _, e4⟩ := rdU_form hs h3
 refine ⟨h4, ?_⟩
 show b.take (rdT b 40 (rdG b s).2).2.n = _
 rw [e1]
 show b.take (rdB b (rdC b s).2).2.n ++ _ = _
 rw [e2]
 show b.take (rdU b 1099511627776 (rdA b s).2).2.n ++ _ ++ _ = _
 rw [e3]
 show b.take (rdU b 4294967295 s).2.n ++ _ ++ _ ++ _ = _
 rw [e4, rawU, dotU]
 simp only [List.append_assoc]
 rfl
theorem rdSibs_len (b : List UInt8) : ∀ (k : Nat) (acc : List SR) (s : RS), (rdSibs b k acc s).1.length = acc.length + k
 | 0, _, _ => rfl
 | k + 1, acc, s => by rw [rdSibs, rdSibs_len]; simp; omega
theorem rdSibs_form (b : List UInt8) : ∀ (k : Nat) (acc : List SR) (s : RS), s.n ≤ b.length → (rdSibs b k acc s).2.e = 0 →
 s.e = 0 ∧ ∃ l, (rdSibs b k acc s).1 = acc ++ l ∧ l.length = k ∧ b.take (rdSibs b k acc s).2.n = b.take s.n ++ l.flatMap rawU
 | 0, acc, s, _, h => ⟨h, [], by simp [rdSibs], rfl, by simp [rdSibs]⟩
 | k + 1, acc, s, hs, h => by
  rw [rdSibs] at h ⊢
  obtain ⟨h1, l, e1, e2, e3⟩ := rdSibs_form b k _ _ (rdSib_place hs) h
  obtain ⟨h2, e4⟩ := rdSib_form hs h1
  refine ⟨h2, (rdSib b s).1 :: l, by rw [e1, List.append_assoc]; rfl, by rw [List.length_cons, e2], ?_⟩
  rw [e3, e4, List.flatMap_cons, List.append_assoc]
def SrIn (x : SR) : Prop := DotIn x.x.d ∧ x.x.v.size ≤ 40 ∧ x.x.gone = (x.g == 1)
theorem rdSib_in (b : List UInt8) (s : RS) : SrIn (rdSib b s).1 := by
 have h1 := rdU_le b 4294967295 s
 have h2 := rdU_le b 1099511627776 (rdA b s).2
 have h3 := rdT_len (b := b) (most := 40) (s := (rdG b s).2)
 refine ⟨⟨?_, ?_, ?_, ?_⟩, ?_, rfl⟩
 · show (0 : Int) ≤ ((rdU b 4294967295 s).1 : Int); omega
 · show ((rdU b 4294967295 s).1 : Int) ≤ _; omega
 · show (0 : Int) ≤ ((rdU b 1099511627776 (rdA b s).2).1 : Int); omega
 · show ((rdU b 1099511627776 (rdA b s).2).1 : Int) ≤ _; omega
 · show (⟨(rdT b 40 (rdG b s).2).1.toArray⟩ : ByteArray).size ≤ 40
   simpa [ByteArray.size] using h3
theorem rdSibs_in (b : List UInt8) : ∀ (k : Nat) (acc : List SR) (s : RS), (∀ d ∈ acc, SrIn d) → ∀ d ∈ (rdSibs b k acc s).1, SrIn d
 | 0, _, _, h => h
 | k + 1, acc, s, h => by
  rw [rdSibs]
  refine rdSibs_in b k _ _ fun d hd => ?_
  rcases List.mem_append.1 hd with hd | hd
  · exact h d hd
  · rw [List.mem_singleton] at hd
    subst hd
    exact rdSib_in b s
theorem takeN_place (b : List UInt8) : (takeN b).2.n ≤ b.length := rdU_place (takeV_place (Nat.zero_le _))
theorem takeS_in (b : List UInt8) : ∀ d ∈ (takeS b).1, SrIn d := rdSibs_in b _ [] _ (fun d hd => by cases hd)
theorem takeS_len (b : List UInt8) : (takeS b).1.length ≤ 64 := by
 have h1 := rdSibs_len b (takeN b).1 [] (takeN b).2
 have h2 := rdU_le b 64 (takeV b ⟨0, 0⟩).2
 show (rdSibs b (takeN b).1 [] (takeN b).2).1.length ≤ 64
 rw [h1]
 show 0 + (rdU b 64 (takeV b ⟨0, 0⟩).2).1 ≤ 64
 omega
/-- The bytes that were read: all of them. -/
theorem whole_form (b : List UInt8) (h : (takeS b).2.e = 0) (hn : (takeS b).2.n = b.length) : vecB (takeV b ⟨0, 0⟩).1 = true ∧ b = vecU (takeV b ⟨0, 0⟩).1 ++ uintU (takeS b).1.length ++ (takeS b).1.flatMap rawU := by
 obtain ⟨h1, l, e1, e2, e3⟩ := rdSibs_form b _ [] _ (takeN_place b) h
 obtain ⟨h2, _, _, e4⟩ := rdU_form (takeV_place (b := b) (s := ⟨0, 0⟩) (Nat.zero_le _)) h1
 obtain ⟨_, hv, e5⟩ := takeV_form (Nat.zero_le _) h2
 refine ⟨hv, ?_⟩
 have e6 : b.take (takeS b).2.n = b := by rw [hn, List.take_length]
 have e7 : (takeS b).1 = l := by rw [← List.nil_append l]; exact e1
 have e8 : l.length = (rdU b 64 (takeV b ⟨0, 0⟩).2).1 := e2
 have e3' : b.take (takeS b).2.n = b.take (rdU b 64 (takeV b ⟨0, 0⟩).2).2.n ++ l.flatMap rawU := e3
 rw [e6, e4, e5] at e3'
 rw [e7, e8]
 simpa using e3'
theorem raw_sib : ∀ (l : List SR), (∀ x ∈ l, x.x.gone = (x.g == 1)) → (l.flatMap rawU = (srL l).flatMap sibU ↔ srOk l = true)
 | [], _ => by simp [srL, srOk]
 | x :: l, h => by
  have ih := raw_sib l (fun y hy => h y (List.mem_cons_of_mem _ hy))
  have hx := h x List.mem_cons_self
  have e1 : srL (x :: l) = x.x :: srL l := rfl
  have e2 : srOk (x :: l) = (decide (x.g.toNat ≤ 1) && srOk l) := rfl
  have hl : (rawU x).length = (sibU x.x).length := by simp [rawU, sibU]
  rw [e1, e2, List.flatMap_cons, List.flatMap_cons, Bool.and_eq_true, ← ih, decide_eq_true_eq]
  have hg : rawU x = sibU x.x ↔ x.g.toNat ≤ 1 := by
   rw [rawU, sibU, hx]
   have : goneU (x.g == 1) = x.g ↔ x.g.toNat ≤ 1 := by
    have h9 : ∀ g : UInt8, goneU (g == 1) = g ↔ g.toNat ≤ 1 := by
     intro g
     by_cases h1 : g = 1
     · subst h1; decide
     · have h2 : (g == 1) = false := by simpa using h1
       rw [h2]
       constructor
       · intro h3; rw [← h3]; decide
       · intro h3
         have h4 : g.toNat ≠ 1 := fun e => h1 (UInt8.toNat_inj.1 e)
         exact (UInt8.toNat_inj.1 (show g.toNat = (0 : UInt8).toNat by have : (0 : UInt8).toNat = 0 := rfl; omega)).symm
    exact h9 x.g
   rw [← this]
   constructor
   · intro h3
     have h4 := List.append_inj_right (List.append_inj_left' h3 rfl) rfl
     injection h4 with h4 _
     exact h4.symm
   · intro h3; rw [h3]
  constructor
  · intro h3
    have := List.append_inj h3 hl
    exact ⟨hg.1 this.1, this.2⟩
  · rintro ⟨h3, h4⟩
    rw [hg.2 h3, h4]
theorem srL_len (l : List SR) : (srL l).length = l.length := List.length_map ..
/-- The document's test and the program's are one. -/
theorem doc_test (b : List UInt8) (h : (takeS b).2.e = 0) (hn : (takeS b).2.n = b.length) (hs : staB (takeV b ⟨0, 0⟩).1 (srL (takeS b).1) = true) : encS (takeV b ⟨0, 0⟩).1 (srL (takeS b).1) = b ↔ srOk (takeS b).1 = true := by
 obtain ⟨_, hb⟩ := whole_form b h hn
 rw [← raw_sib _ (fun x hx => (takeS_in b x hx).2.2)]
 constructor
 · intro h3
   have h4 := h3.trans hb
   rw [encS, srL_len] at h4
   exact (List.append_cancel_left h4).symm
 · intro h3
   rw [encS, srL_len, ← h3]
   exact hb.symm
theorem dec_doc (b : List UInt8) : decB b = (decide ((takeS b).2.e = 0 ∧ (takeS b).2.n = b.length) && staB (takeV b ⟨0, 0⟩).1 (srL (takeS b).1) && decide (encS (takeV b ⟨0, 0⟩).1 (srL (takeS b).1) = b)) := by
 rw [decB]
 by_cases h : (takeS b).2.e = 0 ∧ (takeS b).2.n = b.length
 · by_cases hs : staB (takeV b ⟨0, 0⟩).1 (srL (takeS b).1) = true
   · have := doc_test b h.1 h.2 hs
     rw [hs, decide_eq_true h]
     by_cases hk : srOk (takeS b).1 = true
     · rw [hk, decide_eq_true (this.2 hk)]
     · rw [decide_eq_false (fun e => hk (this.1 e))]
       simpa using hk
   · have hs' : staB (takeV b ⟨0, 0⟩).1 (srL (takeS b).1) = false := by simpa using hs
     rw [hs']; simp
 · rw [decide_eq_false h]; simp
/-- There and back: what Decode takes, Encode writes. -/
theorem dec_enc (b : List UInt8) (h : decB b = true) : staB (decA b) (decL b) = true ∧ encS (decA b) (decL b) = b := by
 have h2 := h
 rw [dec_doc] at h2
 simp only [Bool.and_eq_true, decide_eq_true_eq] at h2
 rw [decA, decL, if_pos h, if_pos h]
 exact ⟨h2.1.2, h2.2⟩
theorem rdDots_of {b t : List UInt8} : ∀ (l : List Dot) (acc : List Dot) (n : Nat), (∀ d ∈ l, DotIn d) → b.drop n = l.flatMap dotU ++ t → rdDots b l.length acc ⟨n, 0⟩ = (acc ++ l, ⟨n + (l.flatMap dotU).length, 0⟩)
 | [], acc, n, _, _ => by simp [rdDots]
 | d :: l, acc, n, hd, hb => by
  obtain ⟨h1, h2, h3, h4⟩ := hd d List.mem_cons_self
  rw [List.flatMap_cons, dotU, List.append_assoc, List.append_assoc] at hb
  have e1 := rdU_of (most := 4294967295) (by decide) hb (by omega)
  have hb2 := drop_more hb
  have e2 := rdU_of (most := 1099511627776) (by decide) hb2 (by omega)
  have hb3 := drop_more hb2
  rw [List.length_cons, rdDots, e1]
  simp only
  rw [e2]
  simp only
  rw [rdDots_of l _ _ (fun x hx => hd x (List.mem_cons_of_mem _ hx)) hb3]
  have ed : (⟨((d.a.toNat : Nat) : Int), ((d.n.toNat : Nat) : Int)⟩ : Dot) = d := by
   cases d; simp only [Dot.mk.injEq]; simp only at h1 h3; omega
  rw [ed, List.append_assoc, List.flatMap_cons, dotU]
  simp only [List.length_append, Nat.add_assoc, List.singleton_append]
theorem takeV_of {b t : List UInt8} {l : List Dot} {n : Nat} (hv : vecB l = true) (hd : ∀ d ∈ l, DotIn d) (hb : b.drop n = vecU l ++ t) : takeV b ⟨n, 0⟩ = (l, ⟨n + (vecU l).length, 0⟩) := by
 rw [vecU, List.append_assoc] at hb
 have e1 := rdU_of (most := 64) (by decide) hb (vec_len hv)
 have e2 := rdDots_of l [] _ hd (drop_more hb)
 rw [takeV, e1]
 simp only
 rw [e2, if_pos rfl]
 simp only [List.nil_append]
 rw [if_pos hv, vecU, List.length_append, Nat.add_assoc]
def srOf (x : Sib) : SR := ⟨x, goneU x.gone⟩
theorem rdSibs_of {b t : List UInt8} : ∀ (l : List Sib) (acc : List SR) (n : Nat), (∀ x ∈ l, DotIn x.d ∧ x.v.size ≤ 40) → b.drop n = l.flatMap sibU ++ t → rdSibs b l.length acc ⟨n, 0⟩ = (acc ++ l.map srOf, ⟨n + (l.flatMap sibU).length, 0⟩)
 | [], acc, n, _, _ => by simp [rdSibs]
 | x :: l, acc, n, hd, hb => by
  obtain ⟨⟨h1, h2, h3, h4⟩, h5⟩ := hd x List.mem_cons_self
  rw [List.flatMap_cons, sibU, dotU] at hb
  simp only [List.append_assoc, List.singleton_append] at hb
  have e1 := rdU_of (most := 4294967295) (by decide) hb (by omega)
  have hb2 := drop_more hb
  have e2 := rdU_of (most := 1099511627776) (by decide) hb2 (by omega)
  have hb3 := drop_more hb2
  have e3 := rdB_of hb3
  have hb4 := drop_more (x := [goneU x.gone]) hb3
  rw [List.length_singleton] at hb4
  have e4 := rdT_of (most := 40) (by decide) hb4 h5
  have hb5 := drop_more hb4
  have es : rdSib b ⟨n, 0⟩ = (srOf x, ⟨n + (sibU x).length, 0⟩) := by
   have q1 : rdA b ⟨n, 0⟩ = rdU b 4294967295 ⟨n, 0⟩ := rfl
   rw [e1] at q1
   have q2 : rdC b ⟨n, 0⟩ = rdU b 1099511627776 (rdA b ⟨n, 0⟩).2 := rfl
   rw [q1] at q2
   simp only at q2
   rw [e2] at q2
   have q3 : rdG b ⟨n, 0⟩ = rdB b (rdC b ⟨n, 0⟩).2 := rfl
   rw [q2] at q3
   simp only at q3
   rw [e3] at q3
   have q4 : rdV b ⟨n, 0⟩ = rdT b 40 (rdG b ⟨n, 0⟩).2 := rfl
   rw [q3] at q4
   simp only at q4
   rw [e4] at q4
   rw [rdSib, q1, q2, q3, q4]
   have eg : (goneU x.gone == 1) = x.gone := by cases x.gone <;> rfl
   have ed : (⟨((x.d.a.toNat : Nat) : Int), ((x.d.n.toNat : Nat) : Int)⟩ : Dot) = x.d := by
    cases hx : x.d with
    | mk a m => rw [hx] at h1 h3; simp only [Dot.mk.injEq]; simp only at h1 h3; omega
   simp only [eg, ed, srOf]
   have e9 : (⟨x.v.data.toList.toArray⟩ : ByteArray) = x.v := by simp
   rw [e9, sibU, dotU]
   simp only [List.length_append, List.length_singleton, Nat.add_assoc]
  rw [List.length_cons, rdSibs, es]
  simp only
  have hb6 : b.drop (n + (sibU x).length) = l.flatMap sibU ++ t := by
   rw [← hb5, sibU, dotU]
   simp only [List.length_append, List.length_singleton, Nat.add_assoc]
  rw [rdSibs_of l _ _ (fun y hy => hd y (List.mem_cons_of_mem _ hy)) hb6, List.append_assoc, List.flatMap_cons, List.length_append, Nat.add_assoc]
  rfl
theorem srL_of (l : List Sib) : srL (l.map srOf) = l := by
 rw [srL, List.map_map]
 induction l with
 | nil => rfl
 | cons x l ih => rw [List.map_cons, ih]; rfl
theorem srOk_of (l : List Sib) : srOk (l.map srOf) = true := by
 rw [srOk, List.all_map, List.all_eq_true]
 intro x _
 show decide ((goneU x.gone).toNat ≤ 1) = true
 cases x.gone <;> rfl
/-- There and back: what Encode writes, Decode takes. -/
theorem enc_dec {a : List Dot} {l : List Sib} (h : staB a l = true) (ra : ∀ d ∈ a, 0 ≤ d.a ∧ d.a ≤ 4294967295) (rl : ∀ x ∈ l, 0 ≤ x.d.a ∧ x.d.a ≤ 4294967295) : decB (encS a l) = true ∧ decA (encS a l) = a ∧ decL (encS a l) = l := by
 have hv := (sta_ok h).1
 have hda : ∀ d ∈ a, DotIn d := fun d hd => ⟨(ra d hd).1, (ra d hd).2, by have := (vec_ok hv d hd).1; omega, (vec_ok hv d hd).2⟩
 have hdl : ∀ x ∈ l, DotIn x.d ∧ x.v.size ≤ 40 := fun x hx => by
  have h2 := (sta_ok h).2.2 x hx
  have h3 := (cov_vec hv x.d).1 h2.1
  have h4 := look_bound hv x.d.a
  exact ⟨⟨(rl x hx).1, (rl x hx).2, by omega, by omega⟩, h2.2.1⟩
 have hb : (encS a l).drop 0 = vecU a ++ (uintU l.length ++ (l.flatMap sibU ++ [])) := by rw [List.drop_zero, encS]; simp only [List.append_assoc, List.append_nil]
 have e1 := takeV_of hv hda hb
 have e2 : takeN (encS a l) = rdU (encS a l) 64 (takeV (encS a l) ⟨0, 0⟩).2 := rfl
 rw [e1] at e2
 simp only at e2
 rw [rdU_of (by decide) (drop_more hb) (sta_ok h).2.1] at e2
 have e3 : takeS (encS a l) = rdSibs (encS a l) (takeN (encS a l)).1 [] (takeN (encS a l)).2 := rfl
 rw [e2] at e3
 simp only at e3
 rw [rdSibs_of l [] _ hdl (drop_more (drop_more hb))] at e3
 have hB : decB (encS a l) = true := by
  rw [decB, e3, e1]
  simp only [List.nil_append, srL_of, srOk_of, h, Bool.true_and, Bool.and_true, decide_eq_true_eq, true_and]
  rw [encS]
  simp only [List.length_append]
  omega
 refine ⟨hB, ?_, ?_⟩
 · rw [decA, if_pos hB, e1]
 · rw [decL, if_pos hB, e3]
   simp only [List.nil_append, srL_of]
end Go.Proofs.Ytljfigikkajlnaa
