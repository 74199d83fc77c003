/- DERIVED. Decode of a state in plain terms: what is read has the bytes as its form, and the other way round. vector.Take: a vector out of a Reader. dvv.Decode: the state whose bytes they are. The document's Take of a vector and of a state. The document's Decode of a state. (Several texts in one: DvDecP, DvTake, DvDec, DvRefTake, DvRefDec.) -/
import Derived.Test.YtljfigikkajlnaaMrEnc
import Derived.Test.YtljfigikkajlnaaMrRd
import Derived.Test.YtljfigikkajlnaaDvOwn
import Derived.Test.YtljfigikkajlnaaDvHS
namespace Go.Proofs.Ytljfigikkajlnaa
open Go.RowKit Go.Lib
set_option linter.unusedVariables false
set_option linter.unusedSimpArgs false

def rdDots (b : List UInt8) : Nat → List Dot → RS → List Dot × RS
  | 0, acc, s => (acc, s)
  | k + 1, acc, s => rdDots b k (acc ++ [⟨(rdU b 4294967295 s).1, (rdU b 1099511627776 (rdU b 4294967295 s).2).1⟩]) (rdU b 1099511627776 (rdU b 4294967295 s).2).2
def takeV (b : List UInt8) (s : RS) : List Dot × RS :=
  if (rdDots b (rdU b 64 s).1 [] (rdU b 64 s).2).2.e = 0 then
    (if vecB (rdDots b (rdU b 64 s).1 [] (rdU b 64 s).2).1 then rdDots b (rdU b 64 s).1 [] (rdU b 64 s).2 else ([], ⟨(rdDots b (rdU b 64 s).1 [] (rdU b 64 s).2).2.n, 100⟩))
  else ([], (rdDots b (rdU b 64 s).1 [] (rdU b 64 s).2).2)
structure SR where
  x : Sib
  g : UInt8
def rdA (b : List UInt8) (s : RS) : Nat × RS := rdU b 4294967295 s
def rdC (b : List UInt8) (s : RS) : Nat × RS := rdU b 1099511627776 (rdA b s).2
def rdG (b : List UInt8) (s : RS) : UInt8 × RS := rdB b (rdC b s).2
def rdV (b : List UInt8) (s : RS) : List UInt8 × RS := rdT b 40 (rdG b s).2
def rdSib (b : List UInt8) (s : RS) : SR × RS := (⟨⟨⟨(rdA b s).1, (rdC b s).1⟩, (rdG b s).1 == 1, ⟨(rdV b s).1.toArray⟩⟩, (rdG b s).1⟩, (rdV b s).2)
def rdSibs (b : List UInt8) : Nat → List SR → RS → List SR × RS
  | 0, acc, s => (acc, s)
  | k + 1, acc, s => rdSibs b k (acc ++ [(rdSib b s).1]) (rdSib b s).2
def srL (l : List SR) : List Sib := l.map SR.x
def srOk (l : List SR) : Bool := l.all fun x => decide (x.g.toNat ≤ 1)
def takeN (b : List UInt8) : Nat × RS := rdU b 64 (takeV b ⟨0, 0⟩).2
def takeS (b : List UInt8) : List SR × RS := rdSibs b (takeN b).1 [] (takeN b).2
def decB (b : List UInt8) : Bool := srOk (takeS b).1 && decide ((takeS b).2.e = 0 ∧ (takeS b).2.n = b.length) && staB (takeV b ⟨0, 0⟩).1 (srL (takeS b).1)
def decA (b : List UInt8) : List Dot := if decB b then (takeV b ⟨0, 0⟩).1 else []
def decL (b : List UInt8) : List Sib := if decB b then srL (takeS b).1 else []
def decE (b : List UInt8) : Int := if decB b then 0 else 110

def rawU (x : SR) : List UInt8 := dotU x.x.d ++ [x.g] ++ textU x.x.v

theorem rdDots_err (b : List UInt8) : ∀ (k : Nat) (acc : List Dot) (s : RS), s.e ≠ 0 → (rdDots b k acc s).2 = s
  | 0, _, _, _ => rfl
  | k + 1, acc, s, h => by rw [rdDots, rdU_err h, rdU_err h]; exact rdDots_err b k _ s h
theorem rdDots_len (b : List UInt8) : ∀ (k : Nat) (acc : List Dot) (s : RS), (rdDots b k acc s).1.length = acc.length + k
  | 0, _, _ => rfl
  | k + 1, acc, s => by rw [rdDots, rdDots_len]; simp; omega
def DotIn (d : Dot) : Prop := 0 ≤ d.a ∧ d.a ≤ 4294967295 ∧ 0 ≤ d.n ∧ d.n ≤ 1099511627776
theorem rdDots_in (b : List UInt8) : ∀ (k : Nat) (acc : List Dot) (s : RS), (∀ d ∈ acc, DotIn d) → ∀ d ∈ (rdDots b k acc s).1, DotIn d
  | 0, _, _, h => h
  | k + 1, acc, s, h => by
    rw [rdDots]
    refine rdDots_in b k _ _ fun d hd => ?_
    rcases List.mem_append.1 hd with hd | hd
    · exact h d hd
    · rw [List.mem_singleton] at hd
      subst hd
      have h1 := rdU_le b 4294967295 s
      have h2 := rdU_le b 1099511627776 (rdU b 4294967295 s).2
      exact ⟨by show (0 : Int) ≤ ((rdU b 4294967295 s).1 : Int); omega, by show ((rdU b 4294967295 s).1 : Int) ≤ _; omega, by show (0 : Int) ≤ ((rdU b 1099511627776 (rdU b 4294967295 s).2).1 : Int); omega, by show ((rdU b 1099511627776 (rdU b 4294967295 s).2).1 : Int) ≤ _; omega⟩
theorem rdDots_place (b : List UInt8) : ∀ (k : Nat) (acc : List Dot) (s : RS), s.n ≤ b.length → (rdDots b k acc s).2.n ≤ b.length
  | 0, _, _, h => h
  | k + 1, acc, s, h => by rw [rdDots]; exact rdDots_place b k _ _ (rdU_place (rdU_place h))
theorem rdDots_form (b : List UInt8) : ∀ (k : Nat) (acc : List Dot) (s : RS), s.n ≤ b.length → (rdDots b k acc s).2.e = 0 →
    s.e = 0 ∧ ∃ l, (rdDots b k acc s).1 = acc ++ l ∧ l.length = k ∧ b.take (rdDots b k acc s).2.n = b.take s.n ++ l.flatMap dotU
  | 0, acc, s, _, h => ⟨h, [], by simp [rdDots], rfl, by simp [rdDots]⟩
  | k + 1, acc, s, hs, h => by
    rw [rdDots] at h ⊢
    obtain ⟨h1, l, e1, e2, e3⟩ := rdDots_form b k _ _ (rdU_place (rdU_place hs)) h
    obtain ⟨h2, _, _, e4⟩ := rdU_form (rdU_place hs) h1
    obtain ⟨h3, _, _, e5⟩ := rdU_form hs h2
    refine ⟨h3, _ :: l, by rw [e1, List.append_assoc]; rfl, by rw [List.length_cons, e2], ?_⟩
    rw [e3, e4, e5, List.flatMap_cons, dotU]
    simp only [List.append_assoc, Int.toNat_natCast]
theorem takeV_place {b : List UInt8} {s : RS} (hs : s.n ≤ b.length) : (takeV b s).2.n ≤ b.length := by
  have h := rdDots_place b (rdU b 64 s).1 [] _ (rdU_place (most := 64) hs)
  unfold takeV
  split
  · split
    · exact h
    · exact h
  · exact h
theorem takeV_form {b : List UInt8} {s : RS} (hs : s.n ≤ b.length) (h : (takeV b s).2.e = 0) : s.e = 0 ∧ vecB (takeV b s).1 = true ∧ b.take (takeV b s).2.n = b.take s.n ++ vecU (takeV b s).1 := by
  unfold takeV at h ⊢
  split at h
  · rename_i h0
    rw [if_pos h0]
    split at h
    · rename_i h1
      rw [if_pos h1]
      obtain ⟨g1, l, e1, e2, e3⟩ := rdDots_form b _ [] _ (rdU_place hs) h0
      obtain ⟨g2, _, _, e4⟩ := rdU_form hs g1
      refine ⟨g2, h1, ?_⟩
      rw [e3, e4, e1, vecU, List.nil_append, e2, List.append_assoc]
    · exact absurd (show (100 : Int) = 0 from h) (by decide)
  · rename_i h0
    exact absurd h h0
theorem takeV_in (b : List UInt8) (s : RS) : ∀ d ∈ (takeV b s).1, DotIn d := by
  unfold takeV
  split
  · split
    · exact rdDots_in b _ [] _ (fun d hd => by cases hd)
    · intro d hd; cases hd
  · intro d hd; cases hd
theorem takeV_len (b : List UInt8) (s : RS) : (takeV b s).1.length ≤ 64 := by
  have h1 := rdDots_len b (rdU b 64 s).1 [] (rdU b 64 s).2
  have h2 := rdU_le b 64 s
  unfold takeV
  split
  · split
    · simp at h1; omega
    · simp
  · simp
theorem rdSib_place {b : List UInt8} {s : RS} (hs : s.n ≤ b.length) : (rdSib b s).2.n ≤ b.length := rdT_place (rdB_place (rdU_place (rdU_place hs)))
theorem rdSib_form {b : List UInt8} {s : RS} (hs : s.n ≤ b.length) (h : (rdSib b s).2.e = 0) : s.e = 0 ∧ b.take (rdSib b s).2.n = b.take s.n ++ rawU (rdSib b s).1 := by
  have q1 : (rdA b s).2.n ≤ b.length := rdU_place (most := 4294967295) hs
  have q2 : (rdC b s).2.n ≤ b.length := rdU_place (most := 1099511627776) q1
  have q3 : (rdG b s).2.n ≤ b.length := rdB_place q2
  obtain ⟨h1, _, _, e1⟩ := rdT_form q3 h
  obtain ⟨h2, _, e2⟩ := rdB_form q2 h1
  obtain ⟨h3, _, _, e3⟩ := rdU_form q1 h2
  obtain ⟨h4, _, _, e4⟩ := rdU_form hs h3
  refine ⟨h4, ?_⟩
  show b.take (rdT b 40 (rdG b s).2).2.n = _
  rw [e1]
  show b.take (rdB b (rdC b s).2).2.n ++ _ = _
  rw [e2]
  show b.take (rdU b 1099511627776 (rdA b s).2).2.n ++ _ ++ _ = _
  rw [e3]
  show b.take (rdU b 4294967295 s).2.n ++ _ ++ _ ++ _ = _
  rw [e4, rawU, dotU]
  simp only [List.append_assoc]
  rfl
theorem rdSibs_place (b : List UInt8) : ∀ (k : Nat) (acc : List SR) (s : RS), s.n ≤ b.length → (rdSibs b k acc s).2.n ≤ b.length
  | 0, _, _, h => h
  | k + 1, acc, s, h => by rw [rdSibs]; exact rdSibs_place b k _ _ (rdSib_place h)
theorem rdSibs_len (b : List UInt8) : ∀ (k : Nat) (acc : List SR) (s : RS), (rdSibs b k acc s).1.length = acc.length + k
  | 0, _, _ => rfl
  | k + 1, acc, s => by rw [rdSibs, rdSibs_len]; simp; omega
theorem rdSibs_form (b : List UInt8) : ∀ (k : Nat) (acc : List SR) (s : RS), s.n ≤ b.length → (rdSibs b k acc s).2.e = 0 →
    s.e = 0 ∧ ∃ l, (rdSibs b k acc s).1 = acc ++ l ∧ l.length = k ∧ b.take (rdSibs b k acc s).2.n = b.take s.n ++ l.flatMap rawU
  | 0, acc, s, _, h => ⟨h, [], by simp [rdSibs], rfl, by simp [rdSibs]⟩
  | k + 1, acc, s, hs, h => by
    rw [rdSibs] at h ⊢
    obtain ⟨h1, l, e1, e2, e3⟩ := rdSibs_form b k _ _ (rdSib_place hs) h
    obtain ⟨h2, e4⟩ := rdSib_form hs h1
    refine ⟨h2, (rdSib b s).1 :: l, by rw [e1, List.append_assoc]; rfl, by rw [List.length_cons, e2], ?_⟩
    rw [e3, e4, List.flatMap_cons, List.append_assoc]
def SrIn (x : SR) : Prop := DotIn x.x.d ∧ x.x.v.size ≤ 40 ∧ x.x.gone = (x.g == 1)
theorem rdSib_in (b : List UInt8) (s : RS) : SrIn (rdSib b s).1 := by
  have h1 := rdU_le b 4294967295 s
  have h2 := rdU_le b 1099511627776 (rdA b s).2
  have h3 := rdT_len (b := b) (most := 40) (s := (rdG b s).2)
  refine ⟨⟨?_, ?_, ?_, ?_⟩, ?_, rfl⟩
  · show (0 : Int) ≤ ((rdU b 4294967295 s).1 : Int); omega
  · show ((rdU b 4294967295 s).1 : Int) ≤ _; omega
  · show (0 : Int) ≤ ((rdU b 1099511627776 (rdA b s).2).1 : Int); omega
  · show ((rdU b 1099511627776 (rdA b s).2).1 : Int) ≤ _; omega
  · show (⟨(rdT b 40 (rdG b s).2).1.toArray⟩ : ByteArray).size ≤ 40
    simpa [ByteArray.size] using h3
theorem rdSibs_in (b : List UInt8) : ∀ (k : Nat) (acc : List SR) (s : RS), (∀ d ∈ acc, SrIn d) → ∀ d ∈ (rdSibs b k acc s).1, SrIn d
  | 0, _, _, h => h
  | k + 1, acc, s, h => by
    rw [rdSibs]
    refine rdSibs_in b k _ _ fun d hd => ?_
    rcases List.mem_append.1 hd with hd | hd
    · exact h d hd
    · rw [List.mem_singleton] at hd
      subst hd
      exact rdSib_in b s
theorem rdSibs_err (b : List UInt8) : ∀ (k : Nat) (acc : List SR) (s : RS), s.e ≠ 0 → (rdSibs b k acc s).2 = s
  | 0, _, _, _ => rfl
  | k + 1, acc, s, h => by
    have e : (rdSib b s).2 = s := by
      show (rdT b 40 (rdB b (rdU b 1099511627776 (rdU b 4294967295 s).2).2).2).2 = s
      rw [rdU_err h, rdU_err h, rdB_err h, rdT_err h]
    rw [rdSibs, e]; exact rdSibs_err b k _ s h

theorem takeN_place (b : List UInt8) : (takeN b).2.n ≤ b.length := rdU_place (takeV_place (Nat.zero_le _))
theorem takeS_in (b : List UInt8) : ∀ d ∈ (takeS b).1, SrIn d := rdSibs_in b _ [] _ (fun d hd => by cases hd)
theorem takeS_len (b : List UInt8) : (takeS b).1.length ≤ 64 := by
  have h1 := rdSibs_len b (takeN b).1 [] (takeN b).2
  have h2 := rdU_le b 64 (takeV b ⟨0, 0⟩).2
  show (rdSibs b (takeN b).1 [] (takeN b).2).1.length ≤ 64
  rw [h1]
  show 0 + (rdU b 64 (takeV b ⟨0, 0⟩).2).1 ≤ 64
  omega
/-- The bytes that were read: all of them. -/
theorem whole_form (b : List UInt8) (h : (takeS b).2.e = 0) (hn : (takeS b).2.n = b.length) : vecB (takeV b ⟨0, 0⟩).1 = true ∧ b = vecU (takeV b ⟨0, 0⟩).1 ++ uintU (takeS b).1.length ++ (takeS b).1.flatMap rawU := by
  obtain ⟨h1, l, e1, e2, e3⟩ := rdSibs_form b _ [] _ (takeN_place b) h
  obtain ⟨h2, _, _, e4⟩ := rdU_form (takeV_place (b := b) (s := ⟨0, 0⟩) (Nat.zero_le _)) h1
  obtain ⟨_, hv, e5⟩ := takeV_form (Nat.zero_le _) h2
  refine ⟨hv, ?_⟩
  have e6 : b.take (takeS b).2.n = b := by rw [hn, List.take_length]
  have e7 : (takeS b).1 = l := by rw [← List.nil_append l]; exact e1
  have e8 : l.length = (rdU b 64 (takeV b ⟨0, 0⟩).2).1 := e2
  have e3' : b.take (takeS b).2.n = b.take (rdU b 64 (takeV b ⟨0, 0⟩).2).2.n ++ l.flatMap rawU := e3
  rw [e6, e4, e5] at e3'
  rw [e7, e8]
  simpa using e3'
theorem raw_sib : ∀ (l : List SR), (∀ x ∈ l, x.x.gone = (x.g == 1)) → (l.flatMap rawU = (srL l).flatMap sibU ↔ srOk l = true)
  | [], _ => by simp [srL, srOk]
  | x :: l, h => by
    have ih := raw_sib l (fun y hy => h y (List.mem_cons_of_mem _ hy))
    have hx := h x List.mem_cons_self
    have e1 : srL (x :: l) = x.x :: srL l := rfl
    have e2 : srOk (x :: l) = (decide (x.g.toNat ≤ 1) && srOk l) := rfl
    have hl : (rawU x).length = (sibU x.x).length := by simp [rawU, sibU]
    rw [e1, e2, List.flatMap_cons, List.flatMap_cons, Bool.and_eq_true, ← ih, decide_eq_true_eq]
    have hg : rawU x = sibU x.x ↔ x.g.toNat ≤ 1 := by
      rw [rawU, sibU, hx]
      have : goneU (x.g == 1) = x.g ↔ x.g.toNat ≤ 1 := by
        have h9 : ∀ g : UInt8, goneU (g == 1) = g ↔ g.toNat ≤ 1 := by
          intro g
          by_cases h1 : g = 1
          · subst h1; decide
          · have h2 : (g == 1) = false := by simpa using h1
            rw [h2]
            constructor
            · intro h3; rw [← h3]; decide
            · intro h3
              have h4 : g.toNat ≠ 1 := fun e => h1 (UInt8.toNat_inj.1 e)
              exact (UInt8.toNat_inj.1 (show g.toNat = (0 : UInt8).toNat by have : (0 : UInt8).toNat = 0 := rfl; omega)).symm
        exact h9 x.g
      rw [← this]
      constructor
      · intro h3
        have h4 := List.append_inj_right (List.append_inj_left' h3 rfl) rfl
        injection h4 with h4 _
        exact h4.symm
      · intro h3; rw [h3]
    constructor
    · intro h3
      have := List.append_inj h3 hl
      exact ⟨hg.1 this.1, this.2⟩
    · rintro ⟨h3, h4⟩
      rw [hg.2 h3, h4]
theorem srL_len (l : List SR) : (srL l).length = l.length := List.length_map ..
/-- The document's test and the program's are one. -/
theorem doc_test (b : List UInt8) (h : (takeS b).2.e = 0) (hn : (takeS b).2.n = b.length) (hs : staB (takeV b ⟨0, 0⟩).1 (srL (takeS b).1) = true) : encS (takeV b ⟨0, 0⟩).1 (srL (takeS b).1) = b ↔ srOk (takeS b).1 = true := by
  obtain ⟨_, hb⟩ := whole_form b h hn
  rw [← raw_sib _ (fun x hx => (takeS_in b x hx).2.2)]
  constructor
  · intro h3
    have h4 := h3.trans hb
    rw [encS, srL_len] at h4
    exact (List.append_cancel_left h4).symm
  · intro h3
    rw [encS, srL_len, ← h3]
    exact hb.symm
theorem dec_doc (b : List UInt8) : decB b = (decide ((takeS b).2.e = 0 ∧ (takeS b).2.n = b.length) && staB (takeV b ⟨0, 0⟩).1 (srL (takeS b).1) && decide (encS (takeV b ⟨0, 0⟩).1 (srL (takeS b).1) = b)) := by
  rw [decB]
  by_cases h : (takeS b).2.e = 0 ∧ (takeS b).2.n = b.length
  · by_cases hs : staB (takeV b ⟨0, 0⟩).1 (srL (takeS b).1) = true
    · have := doc_test b h.1 h.2 hs
      rw [hs, decide_eq_true h]
      by_cases hk : srOk (takeS b).1 = true
      · rw [hk, decide_eq_true (this.2 hk)]
      · rw [decide_eq_false (fun e => hk (this.1 e))]
        simpa using hk
    · have hs' : staB (takeV b ⟨0, 0⟩).1 (srL (takeS b).1) = false := by simpa using hs
      rw [hs']; simp
  · rw [decide_eq_false h]; simp
/-- There and back: what Decode takes, Encode writes. -/
theorem dec_enc (b : List UInt8) (h : decB b = true) : staB (decA b) (decL b) = true ∧ encS (decA b) (decL b) = b := by
  have h2 := h
  rw [dec_doc] at h2
  simp only [Bool.and_eq_true, decide_eq_true_eq] at h2
  rw [decA, decL, if_pos h, if_pos h]
  exact ⟨h2.1.2, h2.2⟩
theorem rdDots_of {b t : List UInt8} : ∀ (l : List Dot) (acc : List Dot) (n : Nat), (∀ d ∈ l, DotIn d) → b.drop n = l.flatMap dotU ++ t → rdDots b l.length acc ⟨n, 0⟩ = (acc ++ l, ⟨n + (l.flatMap dotU).length, 0⟩)
  | [], acc, n, _, _ => by simp [rdDots]
  | d :: l, acc, n, hd, hb => by
    obtain ⟨h1, h2, h3, h4⟩ := hd d List.mem_cons_self
    rw [List.flatMap_cons, dotU, List.append_assoc, List.append_assoc] at hb
    have e1 := rdU_of (most := 4294967295) (by decide) hb (by omega)
    have hb2 := drop_more hb
    have e2 := rdU_of (most := 1099511627776) (by decide) hb2 (by omega)
    have hb3 := drop_more hb2
    rw [List.length_cons, rdDots, e1]
    simp only
    rw [e2]
    simp only
    rw [rdDots_of l _ _ (fun x hx => hd x (List.mem_cons_of_mem _ hx)) hb3]
    have ed : (⟨((d.a.toNat : Nat) : Int), ((d.n.toNat : Nat) : Int)⟩ : Dot) = d := by
      cases d; simp only [Dot.mk.injEq]; simp only at h1 h3; omega
    rw [ed, List.append_assoc, List.flatMap_cons, dotU]
    simp only [List.length_append, Nat.add_assoc, List.singleton_append]
theorem takeV_of {b t : List UInt8} {l : List Dot} {n : Nat} (hv : vecB l = true) (hd : ∀ d ∈ l, DotIn d) (hb : b.drop n = vecU l ++ t) : takeV b ⟨n, 0⟩ = (l, ⟨n + (vecU l).length, 0⟩) := by
  rw [vecU, List.append_assoc] at hb
  have e1 := rdU_of (most := 64) (by decide) hb (vec_len hv)
  have e2 := rdDots_of l [] _ hd (drop_more hb)
  rw [takeV, e1]
  simp only
  rw [e2, if_pos rfl]
  simp only [List.nil_append]
  rw [if_pos hv, vecU, List.length_append, Nat.add_assoc]
def srOf (x : Sib) : SR := ⟨x, goneU x.gone⟩
theorem rdSibs_of {b t : List UInt8} : ∀ (l : List Sib) (acc : List SR) (n : Nat), (∀ x ∈ l, DotIn x.d ∧ x.v.size ≤ 40) → b.drop n = l.flatMap sibU ++ t → rdSibs b l.length acc ⟨n, 0⟩ = (acc ++ l.map srOf, ⟨n + (l.flatMap sibU).length, 0⟩)
  | [], acc, n, _, _ => by simp [rdSibs]
  | x :: l, acc, n, hd, hb => by
    obtain ⟨⟨h1, h2, h3, h4⟩, h5⟩ := hd x List.mem_cons_self
    rw [List.flatMap_cons, sibU, dotU] at hb
    simp only [List.append_assoc, List.singleton_append] at hb
    have e1 := rdU_of (most := 4294967295) (by decide) hb (by omega)
    have hb2 := drop_more hb
    have e2 := rdU_of (most := 1099511627776) (by decide) hb2 (by omega)
    have hb3 := drop_more hb2
    have e3 := rdB_of hb3
    have hb4 := drop_more (x := [goneU x.gone]) hb3
    rw [List.length_singleton] at hb4
    have e4 := rdT_of (most := 40) (by decide) hb4 h5
    have hb5 := drop_more hb4
    have es : rdSib b ⟨n, 0⟩ = (srOf x, ⟨n + (sibU x).length, 0⟩) := by
      have q1 : rdA b ⟨n, 0⟩ = rdU b 4294967295 ⟨n, 0⟩ := rfl
      rw [e1] at q1
      have q2 : rdC b ⟨n, 0⟩ = rdU b 1099511627776 (rdA b ⟨n, 0⟩).2 := rfl
      rw [q1] at q2
      simp only at q2
      rw [e2] at q2
      have q3 : rdG b ⟨n, 0⟩ = rdB b (rdC b ⟨n, 0⟩).2 := rfl
      rw [q2] at q3
      simp only at q3
      rw [e3] at q3
      have q4 : rdV b ⟨n, 0⟩ = rdT b 40 (rdG b ⟨n, 0⟩).2 := rfl
      rw [q3] at q4
      simp only at q4
      rw [e4] at q4
      rw [rdSib, q1, q2, q3, q4]
      have eg : (goneU x.gone == 1) = x.gone := by cases x.gone <;> rfl
      have ed : (⟨((x.d.a.toNat : Nat) : Int), ((x.d.n.toNat : Nat) : Int)⟩ : Dot) = x.d := by
        cases hx : x.d with
        | mk a m => rw [hx] at h1 h3; simp only [Dot.mk.injEq]; simp only at h1 h3; omega
      simp only [eg, ed, srOf]
      have e9 : (⟨x.v.data.toList.toArray⟩ : ByteArray) = x.v := by simp
      rw [e9, sibU, dotU]
      simp only [List.length_append, List.length_singleton, Nat.add_assoc]
    rw [List.length_cons, rdSibs, es]
    simp only
    have hb6 : b.drop (n + (sibU x).length) = l.flatMap sibU ++ t := by
      rw [← hb5, sibU, dotU]
      simp only [List.length_append, List.length_singleton, Nat.add_assoc]
    rw [rdSibs_of l _ _ (fun y hy => hd y (List.mem_cons_of_mem _ hy)) hb6, List.append_assoc, List.flatMap_cons, List.length_append, Nat.add_assoc]
    rfl
theorem srL_of (l : List Sib) : srL (l.map srOf) = l := by
  rw [srL, List.map_map]
  induction l with
  | nil => rfl
  | cons x l ih => rw [List.map_cons, ih]; rfl
theorem srOk_of (l : List Sib) : srOk (l.map srOf) = true := by
  rw [srOk, List.all_map, List.all_eq_true]
  intro x _
  show decide ((goneU x.gone).toNat ≤ 1) = true
  cases x.gone <;> rfl
/-- There and back: what Encode writes, Decode takes. -/
theorem enc_dec {a : List Dot} {l : List Sib} (h : staB a l = true) (ra : ∀ d ∈ a, 0 ≤ d.a ∧ d.a ≤ 4294967295) (rl : ∀ x ∈ l, 0 ≤ x.d.a ∧ x.d.a ≤ 4294967295) : decB (encS a l) = true ∧ decA (encS a l) = a ∧ decL (encS a l) = l := by
  have hv := (sta_ok h).1
  have hda : ∀ d ∈ a, DotIn d := fun d hd => ⟨(ra d hd).1, (ra d hd).2, by have := (vec_ok hv d hd).1; omega, (vec_ok hv d hd).2⟩
  have hdl : ∀ x ∈ l, DotIn x.d ∧ x.v.size ≤ 40 := fun x hx => by
    have h2 := (sta_ok h).2.2 x hx
    have h3 := (cov_vec hv x.d).1 h2.1
    have h4 := look_bound hv x.d.a
    exact ⟨⟨(rl x hx).1, (rl x hx).2, by omega, by omega⟩, h2.2.1⟩
  have hb : (encS a l).drop 0 = vecU a ++ (uintU l.length ++ (l.flatMap sibU ++ [])) := by rw [List.drop_zero, encS]; simp only [List.append_assoc, List.append_nil]
  have e1 := takeV_of hv hda hb
  have e2 : takeN (encS a l) = rdU (encS a l) 64 (takeV (encS a l) ⟨0, 0⟩).2 := rfl
  rw [e1] at e2
  simp only at e2
  rw [rdU_of (by decide) (drop_more hb) (sta_ok h).2.1] at e2
  have e3 : takeS (encS a l) = rdSibs (encS a l) (takeN (encS a l)).1 [] (takeN (encS a l)).2 := rfl
  rw [e2] at e3
  simp only at e3
  rw [rdSibs_of l [] _ hdl (drop_more (drop_more hb))] at e3
  have hB : decB (encS a l) = true := by
    rw [decB, e3, e1]
    simp only [List.nil_append, srL_of, srOk_of, h, Bool.true_and, Bool.and_true, decide_eq_true_eq, true_and]
    rw [encS]
    simp only [List.length_append]
    omega
  refine ⟨hB, ?_, ?_⟩
  · rw [decA, if_pos hB, e1]
  · rw [decL, if_pos hB, e3]
    simp only [List.nil_append, srL_of]
end Go.Proofs.Ytljfigikkajlnaa

namespace Go.Proofs.Ytljfigikkajlnaa
open Go.RowKit Go.Lib
set_option linter.unusedVariables false
set_option linter.unusedSimpArgs false

theorem runint_at (g : Nat) (b : ByteArray) (most : Nat) (s : RS) (v : Nat) (s' : RS) (w : World) (h : Rdr w g b s) (hb : b.size ≤ 140737488355328) (hm : most < 18446744073709551616) (hr : rdU b.data.toList most s = (v, s')) :
    Calls Try.prog 94 #[.pointer (some ⟨g, 0, none⟩), .int .u64 most] w fun e w' => e = .returned (.int .u64 v) ∧ Rdr w' g b s' ∧ w.grownBy w' (some g) := by
  have := runint_any g b most s w h hb hm
  rw [hr] at this
  exact this
theorem own_g {α : Type} {K : GR.Kind α} {w w' : World} {B g : Nat} {t : TypeId} {cs : Array Value} {v : Value} {l : List α} (h : GR.Own K w B v l) (bg : GR.Blk w g t cs) (hne : K.e ≠ t) (hg : w.grownBy w' (some g)) : GR.Own K w' B v l :=
  h.grown hg (.inr (GR.own_blk_ne h bg hne))
theorem takeV_bad {b : List UInt8} {s s1 s2 : RS} {N : Nat} (h : rdU b 64 s = (N, s1)) (h2 : (rdDots b N [] s1).2 = s2) (he : s2.e ≠ 0) : takeV b s = ([], s2) := by
  rw [takeV, h]
  simp only
  rw [h2, if_neg he]
theorem takeV_not {b : List UInt8} {s s1 s2 : RS} {N : Nat} {l : List Dot} (h : rdU b 64 s = (N, s1)) (h2 : rdDots b N [] s1 = (l, s2)) (he : s2.e = 0) (hv : vecB l = false) : takeV b s = ([], ⟨s2.n, 100⟩) := by
  rw [takeV, h]
  simp only
  rw [h2, if_pos he, hv]
  rfl
theorem takeV_yes {b : List UInt8} {s s1 s2 : RS} {N : Nat} {l : List Dot} (h : rdU b 64 s = (N, s1)) (h2 : rdDots b N [] s1 = (l, s2)) (he : s2.e = 0) (hv : vecB l = true) : takeV b s = (l, s2) := by
  rw [takeV, h]
  simp only
  rw [h2, if_pos he, hv]
  rfl

set_option maxRecDepth 100000 in
set_option maxHeartbeats 6400000 in
theorem vtake_any (g : Nat) (b : ByteArray) (s : RS) (w : World) (h : Rdr w g b s) (hb : b.size ≤ 140737488355328) :
    Calls Try.prog 93 #[.pointer (some ⟨g, 0, none⟩)] w fun e w' => ∃ v, e = .returned v ∧ GR.Own dotK w' w.heap.size v (takeV b.data.toList s).1 ∧ Rdr w' g b (takeV b.data.toList s).2 ∧ w.grownBy w' (some g) := by
  obtain ⟨i0, hi0, hz0, hz1, hz2⟩ := info_parts dot_info
  obtain ⟨N, s1, E1⟩ : ∃ N s1, rdU b.data.toList 64 s = (N, s1) := ⟨_, _, rfl⟩
  have hN : N ≤ 64 := by have := rdU_le b.data.toList 64 s; rw [E1] at this; exact this
  have HE1 := Lib.hid E1
  have H := Lib.hid h
  clear h
  clear E1
  go_enter Try.func93, Try.ntmps93
  go_wp2_with fail
  refine (runint_at g b 64 s N s1 _ H.out hb (by omega) HE1.out).mono ?_
  rintro e w1 ⟨rfl, h1, g1⟩
  have H1 := Lib.hid h1
  have G1 := Lib.hid g1
  clear h1 g1
  go_wp2
  go_loopw [3, 8] (fun vl ii w' => ∃ (k : Nat) (acc : List Dot) (st : RS), ii = .int .u64 k ∧ k ≤ N ∧ Hid (acc.length = k) ∧ Hid (∀ d ∈ acc, 0 ≤ d.n) ∧ Hid (GR.Own dotK w' w.heap.size vl acc) ∧ Hid (Rdr w' g b st) ∧ Hid (rdDots b.data.toList N [] s1 = rdDots b.data.toList (N - k) acc st) ∧ Hid (w.grownBy w' (some g))) (fun _ ii _ => N - (intOf ii).toNat)
  case atStart => exact ⟨0, [], s1, rfl, Nat.zero_le _, Lib.hid rfl, Lib.hid (fun d hd => (by cases hd)), Lib.hid (GR.Own.nil _ _ _), H1, Lib.hid rfl, G1⟩
  case round =>
    obtain ⟨k, acc, st, rfl, hk, hal, hap, ho, hR, hD, hG⟩ := hrel
    have hsz := hG.out.size
    by_cases hlt : k < N
    · have l1 : decide ((k : Int) < (N : Int)) = true := by simp; omega
      have l2 : decide (k < N) = true := by simp; omega
      obtain ⟨p, st2, E2⟩ : ∃ p st2, rdU b.data.toList 4294967295 st = (p, st2) := ⟨_, _, rfl⟩
      obtain ⟨q, st3, E3⟩ : ∃ q st3, rdU b.data.toList 1099511627776 st2 = (q, st3) := ⟨_, _, rfl⟩
      have hp : p ≤ 4294967295 := by have := rdU_le b.data.toList 4294967295 st; rw [E2] at this; exact this
      have hq : q ≤ 1099511627776 := by have := rdU_le b.data.toList 1099511627776 st2; rw [E3] at this; exact this
      have HD2 : Hid (rdDots b.data.toList N [] s1 = rdDots b.data.toList (N - (k + 1)) (acc ++ [⟨p, q⟩]) st3) := Lib.hid (by
        rw [hD.out, show N - k = N - (k + 1) + 1 by omega, rdDots, E2]
        simp only
        rw [E3])
      have e1 : IntKind.u32.wrap (p : Int) = (p : Int) := by rw [IntKind.wrap_u32]; omega
      have HE2 := Lib.hid E2
      have HE3 := Lib.hid E3
      clear E2 E3
      go_wp2_with fail
      refine (runint_at g b 4294967295 st p st2 _ hR.out hb (by omega) HE2.out).mono ?_
      rintro e w2 ⟨rfl, h2, g2⟩
      have R2 := Lib.hid h2
      have O2 := Lib.hid (own_g ho.out hR.out.1 (by decide) g2)
      have G2 := Lib.hid (grown_trans hG.out g2)
      clear h2 g2
      go_wp2_with fail
      refine (runint_at g b 1099511627776 st2 q st3 _ R2.out hb (by omega) HE3.out).mono ?_
      rintro e w3 ⟨rfl, h3, g3⟩
      have R3 := Lib.hid h3
      have O3 := Lib.hid (own_g O2.out R2.out.1 (by decide) g3)
      have G3 := Lib.hid (grown_trans G2.out g3)
      clear h3 g3
      go_wp2_with fail
      refine (rerr_any g b st3 _ R3.out).mono ?_
      rintro e w_ ⟨rfl, rfl⟩
      by_cases h0 : st3.e = 0
      · rw [h0]
        clear h0
        have hs3 : w.heap.size ≤ w3.heap.size := G3.out.size
        have HLL : Hid ((acc.length + 1) * 16 ≤ 140737488355328) := Lib.hid (by have := hal.out; omega)
        go_wp2_with (at_builtin; refine GR.app_one (K := dotK) rfl (.tmp 17) (.tmp 22) _ rfl Try.underlying22 hi0 hz0 hz1 hz2 rfl w.heap.size _ acc ⟨p, q⟩ rfl O3.out rfl HLL.out hs3 ?_; intro v4 w4 ho4 hg4 hat4; have O4 := Lib.hid ho4; have R4 := Lib.hid (show Rdr w4 g b st3 from ⟨R3.out.1.grown hg4 (fun e => GR.own_blk_ne O3.out R3.out.1 (by decide) e.symm), R3.out.2⟩); have G4 := Lib.hid (GR.grown_step G3.out hg4 (.inr (fun b hb => (O3.out.lt b hb).1))); clear ho4 hg4 hat4)
        go_roundw
        case rel => exact ⟨k + 1, _, st3, by go_num, by omega, Lib.hid (by rw [List.length_append, hal.out]; rfl), Lib.hid (fun d hd => by
          rcases List.mem_append.1 hd with hd | hd
          · exact hap.out d hd
          · rw [List.mem_singleton] at hd; subst hd; show (0 : Int) ≤ (q : Int); omega), O4, R4, HD2, G4⟩
        case measure => simp [intOf]; omega
      · have HT : Hid (takeV b.data.toList s = ([], st3)) := Lib.hid (takeV_bad HE1.out (by rw [HD2.out]; exact rdDots_err _ _ _ _ h0) h0)
        have q1 : (st3.e != 0) = true := by simpa using h0
        have q2 : (st3.e == 0) = false := by simpa using h0
        have q3 : decide (st3.e = 0) = false := by simpa using h0
        clear h0
        go_wp2_with fail
        refine (rerr_any g b st3 _ R3.out).mono ?_
        rintro e w_ ⟨rfl, rfl⟩
        go_wp2_with fail
        refine (rerr_any g b st3 _ R3.out).mono ?_
        rintro e w_ ⟨rfl, rfl⟩
        go_wp2
        go_ret
        rw [HT.out]
        exact ⟨_, rfl, GR.Own.nil _ _ _, R3.out, G3.out⟩
    · obtain rfl : k = N := by omega
      have HD3 : Hid (rdDots b.data.toList k [] s1 = (acc, st)) := Lib.hid (by rw [hD.out, Nat.sub_self, rdDots])
      by_cases h0 : st.e = 0
      · obtain ⟨A, n, c, rfl⟩ := own_slice ho.out (by have := hal.out; show acc.length * 16 ≤ _; omega)
        obtain ⟨e8, _, r8⟩ := ho.out.rd (by have := hal.out; show acc.length * 16 ≤ _; omega)
        have HR8 := Lib.hid r8
        have HH0 := Lib.hid h0
        have HV2 : Hid (Calls Try.prog 82 #[.slice A n c] wr fun e w' => e = .returned (.bool (vecB acc)) ∧ Below wr.heap.size wr w') := Lib.hid (by rw [e8]; exact vecValid_any A c acc _ HR8.out hap.out)
        clear r8 e8
        go_wp2_with fail
        refine (rerr_any g b st _ hR.out).mono ?_
        rintro e w_ ⟨rfl, rfl⟩
        rw [h0]
        clear h0
        go_wp2_with fail
        refine (HV2.out).mono ?_
        rintro e w5 ⟨rfl, h5⟩
        have R5 := Lib.hid (hR.out.below h5)
        have O5 := Lib.hid (ho.out.below h5)
        have G5 := Lib.hid (grown_trans hG.out (GR.grown_of_bl h5 (some g)))
        clear h5
        by_cases hv : vecB acc = true
        · have HT : Hid (takeV b.data.toList s = (acc, st)) := Lib.hid (takeV_yes HE1.out HD3.out HH0.out hv)
          rw [hv]
          clear hv
          go_wp2_with fail
          refine (rerr_any g b st _ R5.out).mono ?_
          rintro e w_ ⟨rfl, rfl⟩
          rw [HH0.out]
          go_wp2
          go_ret
          rw [HT.out]
          exact ⟨_, rfl, O5.out, R5.out, G5.out⟩
        · have hv' : vecB acc = false := by simpa using hv
          have HT : Hid (takeV b.data.toList s = ([], ⟨st.n, 100⟩)) := Lib.hid (takeV_not HE1.out HD3.out HH0.out hv')
          rw [hv']
          clear hv hv'
          go_wp2_with fail
          refine (rfail_any g b st 100 _ R5.out HH0.out).mono ?_
          rintro e w6 ⟨rfl, h6, g6⟩
          have R6 := Lib.hid h6
          have G6 := Lib.hid (grown_trans G5.out g6)
          clear h6 g6
          go_wp2_with fail
          refine (rerr_any g b _ _ R6.out).mono ?_
          rintro e w_ ⟨rfl, rfl⟩
          go_wp2
          go_ret
          rw [HT.out]
          exact ⟨_, rfl, GR.Own.nil _ _ _, R6.out, G6.out⟩
      · have HT : Hid (takeV b.data.toList s = ([], st)) := Lib.hid (takeV_bad HE1.out (by rw [HD3.out]) h0)
        have q1 : (st.e != 0) = true := by simpa using h0
        have q2 : (st.e == 0) = false := by simpa using h0
        have q3 : decide (st.e = 0) = false := by simpa using h0
        clear h0
        go_wp2_with fail
        refine (rerr_any g b st _ hR.out).mono ?_
        rintro e w_ ⟨rfl, rfl⟩
        go_wp2_with fail
        refine (rerr_any g b st _ hR.out).mono ?_
        rintro e w_ ⟨rfl, rfl⟩
        go_wp2
        go_ret
        rw [HT.out]
        exact ⟨_, rfl, GR.Own.nil _ _ _, hR.out, hG.out⟩
end Go.Proofs.Ytljfigikkajlnaa

namespace Go.Proofs.Ytljfigikkajlnaa
open Go.RowKit Go.Lib
set_option linter.unusedVariables false
set_option linter.unusedSimpArgs false

theorem rbyte_at (g : Nat) (b : ByteArray) (s : RS) (c : UInt8) (s' : RS) (w : World) (h : Rdr w g b s) (hb : b.size ≤ 140737488355328) (hr : rdB b.data.toList s = (c, s')) :
    Calls Try.prog 95 #[.pointer (some ⟨g, 0, none⟩)] w fun e w' => e = .returned (.int .u8 c.toNat) ∧ Rdr w' g b s' ∧ w.grownBy w' (some g) := by
  have := rbyte_any g b s w h hb
  rw [hr] at this
  exact this
theorem rtext_at (g : Nat) (b : ByteArray) (most : Nat) (s : RS) (t : List UInt8) (s' : RS) (w : World) (h : Rdr w g b s) (hb : b.size ≤ 140737488355328) (hm : most ≤ 140737488355328) (hr : rdT b.data.toList most s = (t, s')) :
    Calls Try.prog 96 #[.pointer (some ⟨g, 0, none⟩), .int .i64 most] w fun e w' => e = .returned (.string ⟨t.toArray⟩) ∧ Rdr w' g b s' ∧ w.grownBy w' (some g) := by
  have := rtext_any g b most s w h hb hm
  rw [hr] at this
  exact this
theorem rend_at (g : Nat) (b : ByteArray) (s : RS) (x : Int) (w : World) (h : Rdr w g b s) (hx : endP b.data.toList s = x) :
    Calls Try.prog 97 #[.pointer (some ⟨g, 0, none⟩)] w fun e w' => e = .returned (.int .i64 x) ∧ Drawn w w' := by
  subst hx
  exact rend_any g b s w h
theorem Rdr.far {w : World} {g : Nat} {b : ByteArray} {s : RS} {p : Addr} (h : Rdr w g b s) (hp : g ≠ p.block) (u : Value) : Rdr (w.setCell p u) g b s := ⟨h.1.far hp u, h.2⟩
theorem chg_g {g : Nat} {w w' : World} (h : w.grownBy w' (some g)) : Chg (fun k => k = g) w w' := chg_grown h fun k e _ => by injection e with e; exact e.symm
/-- What stands while a state is read. -/
structure DI (w0 w : World) (R g S : Nat) (b : ByteArray) (st : RS) (v vs : Value) (a : List Dot) (l : List Sib) : Prop where
  r : GR.Blk w R 25 #[.slice none 0 0, .slice none 0 0]
  s : GR.Blk w S 25 #[v, vs]
  rd : Rdr w g b st
  d : GR.Own dotK w w0.heap.size v a
  l : GR.Own sibK w w0.heap.size vs l
  ne : R < S
  lg : w0.heap.size ≤ g
  lr : w0.heap.size ≤ R
  bl : Below w0.heap.size w0 w
theorem DI.chg {w0 w w' : World} {R g S : Nat} {b : ByteArray} {st st' : RS} {v vs : Value} {a : List Dot} {l : List Sib} (h : DI w0 w R g S b st v vs a l) (hc : Chg (fun k => k = g) w w') (hr : Rdr w' g b st') : DI w0 w' R g S b st' v vs a l :=
  ⟨blk_chg h.r hc (fun e => h.r.ne_ h.rd.1 (by decide) e), blk_chg h.s hc (fun e => h.s.ne_ h.rd.1 (by decide) e), hr,
   own_chg h.d hc (fun k hk e => by subst e; exact GR.own_blk_ne h.d h.rd.1 (by decide) hk), own_chg h.l hc (fun k hk e => by subst e; exact GR.own_blk_ne h.l h.rd.1 (by decide) hk), h.ne, h.lg, h.lr,
   h.bl.trans (hc.below h.bl.size (fun k e => by subst e; exact h.lg))⟩
theorem DI.put {w0 w w' : World} {R g S : Nat} {b : ByteArray} {st : RS} {v vs v' : Value} {a : List Dot} {l l' : List Sib} (h : DI w0 w R g S b st v vs a l) (ho : GR.Own sibK w' w0.heap.size v' l') (hg : w.grownBy w' vs.ownBlock) : DI w0 (w'.setCell ⟨S, 1, none⟩ v') R g S b st v v' a l' := by
  have r1 := h.r.grown hg (fun e => GR.own_blk_ne h.l h.r (by decide) e.symm)
  have s1 := h.s.grown hg (fun e => GR.own_blk_ne h.l h.s (by decide) e.symm)
  have d1 := h.d.grown hg (own_apart h.d h.l (by decide))
  have g1 : Rdr w' g b st := ⟨h.rd.1.grown hg (fun e => GR.own_blk_ne h.l h.rd.1 (by decide) e.symm), h.rd.2⟩
  exact ⟨r1.far (show R ≠ S from Nat.ne_of_lt h.ne) _, s1.set_ 1 _, g1.far (show g ≠ S from fun e => h.rd.1.ne_ h.s (by decide) e) _,
    own_farI d1 s1 1 _ (by decide), own_farI ho s1 1 _ (by decide), h.ne, h.lg, h.lr,
    ((Below.grown h.bl hg h.bl.size (fun k hk => (h.l.lt k hk).1)).setCell (p := ⟨S, 1, none⟩) (Nat.le_trans h.lr (Nat.le_of_lt h.ne)) v')⟩
theorem srOk_app (l m : List SR) : srOk (l ++ m) = (srOk l && srOk m) := by simp [srOk, List.all_append]
theorem srL_app (l m : List SR) : srL (l ++ m) = srL l ++ srL m := by simp [srL]
theorem rdSibs_bad (b : List UInt8) : ∀ (k : Nat) (acc : List SR) (s : RS), srOk acc = false → srOk (rdSibs b k acc s).1 = false
  | 0, _, _, h => h
  | k + 1, acc, s, h => by
    rw [rdSibs]
    exact rdSibs_bad b k _ _ (by rw [srOk_app, h]; rfl)
theorem dec_bad {b : List UInt8} {N : Nat} {s1 : RS} (h1 : takeN b = (N, s1)) (h : srOk (rdSibs b N [] s1).1 = false) : decA b = [] ∧ decL b = [] ∧ decE b = 110 := by
  have h2 : decB b = false := by
    rw [decB, takeS, h1]
    simp only
    rw [h]; rfl
  simp [decA, decL, decE, h2]
theorem dec_end {b : List UInt8} {N : Nat} {s1 st : RS} {acc : List SR} (h1 : takeN b = (N, s1)) (h : rdSibs b N [] s1 = (acc, st)) (hn : st.n ≤ b.length) (he : endP b st ≠ 0) : decA b = [] ∧ decL b = [] ∧ decE b = 110 := by
  have h2 : decB b = false := by
    rw [decB, takeS, h1]
    simp only
    rw [h, decide_eq_false (fun h3 => he (by rw [endP, if_neg (by show ¬ (st.e = 0 ∧ st.n < b.length); have := h3.2; simp only at this; omega)]; exact h3.1))]
    simp
  simp [decA, decL, decE, h2]
theorem dec_inv {b : List UInt8} {N : Nat} {s1 st : RS} {acc : List SR} (h1 : takeN b = (N, s1)) (h : rdSibs b N [] s1 = (acc, st)) (hs : staB (takeV b ⟨0, 0⟩).1 (srL acc) = false) : decA b = [] ∧ decL b = [] ∧ decE b = 110 := by
  have h2 : decB b = false := by
    rw [decB, takeS, h1]
    simp only
    rw [h, hs]
    simp
  simp [decA, decL, decE, h2]
theorem dec_yes {b : List UInt8} {N : Nat} {s1 st : RS} {acc : List SR} (h1 : takeN b = (N, s1)) (h : rdSibs b N [] s1 = (acc, st)) (hn : st.n ≤ b.length) (he : endP b st = 0) (hk : srOk acc = true) (hs : staB (takeV b ⟨0, 0⟩).1 (srL acc) = true) : decA b = (takeV b ⟨0, 0⟩).1 ∧ decL b = srL acc ∧ decE b = 0 := by
  have h3 : st.e = 0 ∧ st.n = b.length := by
    unfold endP at he
    split at he
    · exact absurd he (by decide)
    · rename_i h4
      exact ⟨he, by omega⟩
  have h5 : takeS b = (acc, st) := by
    rw [takeS, h1]; exact h
  have h2 : decB b = true := by
    rw [decB, h5]
    simp only
    rw [hs, hk, decide_eq_true h3]
    rfl
  rw [decA, decL, decE, if_pos h2, if_pos h2, if_pos h2, h5]
  exact ⟨rfl, rfl, rfl⟩

theorem gone_tests (x : UInt8) (gb : Bool) (hgb : gb = (x == 1)) : ((x.toNat : Int) == 1) = gb ∧ decide ((x.toNat : Int) = 1) = gb ∧ (x.toNat == 1) = gb := by
  have gx : (x == 1) = decide (x.toNat = 1) := by
    by_cases hy : x = 1
    · subst hy; rfl
    · rw [show decide (x.toNat = 1) = false from decide_eq_false (fun e => hy (UInt8.toNat_inj.1 e))]
      simpa using hy
  refine ⟨?_, ?_, ?_⟩
  · rw [hgb, gx]
    by_cases hy : x.toNat = 1
    · rw [hy]; rfl
    · rw [decide_eq_false hy]; simp; omega
  · rw [hgb, gx]
    by_cases hy : x.toNat = 1
    · rw [hy]; rfl
    · rw [decide_eq_false hy]; simp; omega
  · rw [hgb, gx]; rfl
theorem dvalid_at (A C : Option Addr) (n c m d B : Nat) (a : List Dot) (l : List Sib) (w : World) (ho : GR.Own dotK w B (.slice A n c) a) (hs : GR.Own sibK w B (.slice C m d) l) (ha : a.length ≤ 64) (hl : l.length ≤ 64) (na : ∀ d ∈ a, 0 ≤ d.n) (nl : ∀ x ∈ l, 0 ≤ x.d.n) :
    Calls Try.prog 73 #[.agg #[.slice A n c, .slice C m d]] w fun e w' => e = .returned (.bool (staB a l)) ∧ Below w.heap.size w w' := by
  obtain ⟨e1, _, r1⟩ := ho.rd (by show a.length * 16 ≤ _; omega)
  obtain ⟨e2, _, r2⟩ := hs.rd (by show l.length * 40 ≤ _; omega)
  subst e1 e2
  exact dvvValid_any A C c d a l w r1 r2 na nl

set_option maxRecDepth 100000 in
set_option maxHeartbeats 12800000 in
theorem decode_any (b : ByteArray) (w : World) (hb : b.size ≤ 140737488355328) :
    Calls Try.prog 44 #[.string b] w fun e w' => ∃ v1 v2, e = .returned (.tuple #[.agg #[v1, v2], .int .i64 (decE b.data.toList)]) ∧ OwnS w' w.heap.size v1 v2 (decA b.data.toList) (decL b.data.toList) ∧ Below w.heap.size w w' := by
  obtain ⟨i0, hi0, hz0, hz1, hz2⟩ := info_parts sib_info
  obtain ⟨N, s1, E1⟩ : ∃ N s1, takeN b.data.toList = (N, s1) := ⟨_, _, rfl⟩
  have E1' : rdU b.data.toList 64 (takeV b.data.toList ⟨0, 0⟩).2 = (N, s1) := E1
  have hN : N ≤ 64 := by have := rdU_le b.data.toList 64 (takeV b.data.toList ⟨0, 0⟩).2; rw [E1'] at this; exact this
  have e0 : IntKind.i64.wrap (N : Int) = (N : Int) := IntWalk.i64_in _ (by omega)
  have HE1 := Lib.hid E1
  have HE1' := Lib.hid E1'
  clear E1 E1'
  obtain ⟨a, ha⟩ : ∃ a, a = (takeV b.data.toList ⟨0, 0⟩).1 := ⟨_, rfl⟩
  have HA := Lib.hid ha
  have hal : a.length ≤ 64 := by rw [ha]; exact takeV_len _ _
  have HAI : Hid (∀ d ∈ a, DotIn d) := Lib.hid (by rw [ha]; exact takeV_in _ _)
  clear ha
  go_enter Try.func44, Try.ntmps44
  go_wp2_with fail
  obtain ⟨W1, hW1⟩ : ∃ W1 : World, W1 = w.alloc (.cells #[.slice none 0 0, .slice none 0 0] 25) := ⟨_, rfl⟩
  rw [← hW1]
  have LW : Hid (Below w.heap.size w W1) := Lib.hid (by rw [hW1]; exact (by repeat (first | exact Below.refl _ _ | refine bl_drewN ?_ _ | refine bl_drew ?_ | refine bl_alloc ?_ _)))
  have X1 : Hid (GR.Blk W1 w.heap.size 25 #[.slice none 0 0, .slice none 0 0]) := Lib.hid (by rw [hW1]; exact GR.Blk.new _ _ _)
  clear hW1
  refine (newReader_any b W1).mono ?_
  rintro e w2 ⟨rfl, h2, b2⟩
  have R2 := Lib.hid h2
  have B2 := Lib.hid (bl_then LW.out b2)
  have X2 := Lib.hid (X1.out.below b2 X1.out.lt)
  have hg0 : w.heap.size < W1.heap.size := X1.out.lt
  clear h2 b2
  go_wp2_with fail
  refine (vtake_any W1.heap.size b ⟨0, 0⟩ _ R2.out hb).mono ?_
  rintro e w3 ⟨v, rfl, o3, h3, g3⟩
  rw [← HA.out] at o3
  obtain ⟨A, n, c, rfl⟩ := own_slice o3 (by show a.length * 16 ≤ _; omega)
  have R3 := Lib.hid h3
  have O3 := Lib.hid (o3.base B2.out.size)
  have B3 := Lib.hid (B2.out.trans ((chg_g g3).below B2.out.size (fun k e => by subst e; exact LW.out.size)))
  have X3 := Lib.hid (X2.out.grown g3 (fun e => by injection e with e; omega))
  clear h3 g3 o3
  go_wp2_with fail
  obtain ⟨W4, hW4⟩ : ∃ W4 : World, W4 = w3.alloc (.cells #[.slice A n c, .slice none 0 0] 25) := ⟨_, rfl⟩
  rw [← hW4]
  have D4 : Hid (DI w W4 w.heap.size W1.heap.size w3.heap.size b (takeV b.data.toList ⟨0, 0⟩).2 (.slice A n c) (.slice none 0 0) a []) := Lib.hid (by
    have hb4 : Below w3.heap.size w3 W4 := by rw [hW4]; exact (by repeat (first | exact Below.refl _ _ | refine bl_drewN ?_ _ | refine bl_drew ?_ | refine bl_alloc ?_ _))
    exact ⟨X3.out.below hb4 X3.out.lt, by rw [hW4]; exact GR.Blk.new _ _ _, R3.out.below hb4, O3.out.below hb4, GR.Own.nil _ _ _, X3.out.lt, LW.out.size, Nat.le_refl _, bl_then B3.out hb4⟩)
  clear hW4
  refine (runint_at W1.heap.size b 64 _ N s1 _ D4.out.rd hb (by omega) HE1'.out).mono ?_
  rintro e w5 ⟨rfl, h5, g5⟩
  have D5 := Lib.hid (D4.out.chg (chg_g g5) h5)
  clear h5 g5
  go_wp2
  go_loopw [18] (fun ii w' => ∃ (k : Nat) (vs : Value) (acc : List SR) (st : RS), ii = .int .i64 k ∧ k ≤ N ∧ Hid (acc.length = k) ∧ Hid (srOk acc = true) ∧ Hid (∀ x ∈ acc, SrIn x) ∧ Hid (DI w w' w.heap.size W1.heap.size w3.heap.size b st (.slice A n c) vs a (srL acc)) ∧ Hid (rdSibs b.data.toList N [] s1 = rdSibs b.data.toList (N - k) acc st)) (fun ii _ => N - (intOf ii).toNat)
  case atStart => exact ⟨0, _, [], s1, rfl, Nat.zero_le _, Lib.hid rfl, Lib.hid rfl, Lib.hid (fun d hd => (by cases hd)), D5, Lib.hid rfl⟩
  case round =>
    obtain ⟨k, vs, acc, st, rfl, hk, hacl, hok, hin, hD, hS⟩ := hrel
    have hlen : (srL acc).length = k := by rw [srL_len]; exact hacl.out
    obtain ⟨C, m, d, rfl⟩ := own_slice hD.out.l (by show (srL acc).length * 40 ≤ _; omega)
    by_cases hlt : k < N
    · have l1 : decide ((k : Int) < (N : Int)) = true := by simp; omega
      have l2 : decide (k < N) = true := by simp; omega
      obtain ⟨p, st2, E2⟩ : ∃ p st2, rdU b.data.toList 4294967295 st = (p, st2) := ⟨_, _, rfl⟩
      obtain ⟨q, st3, E3⟩ : ∃ q st3, rdU b.data.toList 1099511627776 st2 = (q, st3) := ⟨_, _, rfl⟩
      obtain ⟨x, st4, E4⟩ : ∃ x st4, rdB b.data.toList st3 = (x, st4) := ⟨_, _, rfl⟩
      obtain ⟨t, st5, E5⟩ : ∃ t st5, rdT b.data.toList 40 st4 = (t, st5) := ⟨_, _, rfl⟩
      have hp : p ≤ 4294967295 := by have := rdU_le b.data.toList 4294967295 st; rw [E2] at this; exact this
      obtain ⟨gb, hgb⟩ : ∃ gb : Bool, gb = (x == 1) := ⟨_, rfl⟩
      have ES : rdSib b.data.toList st = (⟨⟨⟨p, q⟩, gb, ⟨t.toArray⟩⟩, x⟩, st5) := by
        simp only [rdSib, rdA, rdC, rdG, rdV, E2, E3, E4, E5, hgb]
      have HIN : Hid (SrIn ⟨⟨⟨p, q⟩, gb, ⟨t.toArray⟩⟩, x⟩) := Lib.hid (by have := rdSib_in b.data.toList st; rw [ES] at this; exact this)
      have HD2 : Hid (rdSibs b.data.toList N [] s1 = rdSibs b.data.toList (N - (k + 1)) (acc ++ [⟨⟨⟨p, q⟩, gb, ⟨t.toArray⟩⟩, x⟩]) st5) := Lib.hid (by
        rw [hS.out, show N - k = N - (k + 1) + 1 by omega, rdSibs, ES])
      have h256 := x.toNat_lt
      obtain ⟨g1, g2, g3⟩ := gone_tests x gb hgb
      have e1 : IntKind.u32.wrap (p : Int) = (p : Int) := by rw [IntKind.wrap_u32]; omega
      have HE2 := Lib.hid E2
      have HE3 := Lib.hid E3
      have HE4 := Lib.hid E4
      have HE5 := Lib.hid E5
      clear E2 E3 E4 E5 ES hgb
      go_wp2_with fail
      refine (runint_at W1.heap.size b 4294967295 st p st2 _ hD.out.rd hb (by omega) HE2.out).mono ?_
      rintro e w6 ⟨rfl, h6, q6⟩
      have D6 := Lib.hid (hD.out.chg (chg_g q6) h6)
      clear h6 q6
      go_wp2_with fail
      obtain ⟨W7, hW7⟩ : ∃ W7 : World, W7 = w6.alloc (.cells #[.int .u32 p, .int .u64 0, .bool false, .string ⟨#[]⟩] 67) := ⟨_, rfl⟩
      rw [← hW7]
      have C7 : Hid (Chg (fun k => k = W1.heap.size) w6 W7) := Lib.hid (chg_bl (by rw [hW7]; exact (by repeat (first | exact Below.refl _ _ | refine bl_drewN ?_ _ | refine bl_drew ?_ | refine bl_alloc ?_ _))))
      have X7 : Hid (GR.Blk W7 w6.heap.size 67 #[.int .u32 p, .int .u64 0, .bool false, .string ⟨#[]⟩]) := Lib.hid (by rw [hW7]; exact GR.Blk.new _ _ _)
      have R7 : Hid (Rdr W7 W1.heap.size b st2) := Lib.hid (D6.out.rd.below (by rw [hW7]; exact (by repeat (first | exact Below.refl _ _ | refine bl_drewN ?_ _ | refine bl_drew ?_ | refine bl_alloc ?_ _))))
      have hgx : W1.heap.size < w6.heap.size := D6.out.rd.1.lt
      have hgn : W1.heap.size ≠ w6.heap.size := Nat.ne_of_lt hgx
      clear hW7
      refine (runint_at W1.heap.size b 1099511627776 st2 q st3 _ R7.out hb (by omega) HE3.out).mono ?_
      rintro e w8 ⟨rfl, h8, q8⟩
      have R8 := Lib.hid h8
      have C8 := Lib.hid (C7.out.then (chg_g q8))
      have X8 := Lib.hid (X7.out.grown q8 (fun e => by injection e with e; omega))
      have y0 := X8.out.frozen 1
      have y1 : w8.cell? ⟨w6.heap.size, 1, none⟩ = some (.int .u64 0) := X8.out.cell 1
      clear h8 q8
      go_wp2_with fail
      clear y0 y1
      obtain ⟨W9, hW9⟩ : ∃ W9 : World, W9 = w8.setCell ⟨w6.heap.size, 1, none⟩ (.int .u64 q) := ⟨_, rfl⟩
      rw [← hW9]
      have R9 : Hid (Rdr W9 W1.heap.size b st3) := Lib.hid (by rw [hW9]; exact R8.out.far hgn _)
      have C9 : Hid (Chg (fun k => k = W1.heap.size) w6 W9) := Lib.hid (by rw [hW9]; exact C8.out.trans (T := fun k => k = w6.heap.size) (chg_set 1 _ (.inl rfl)) (fun i hi e => absurd hi (by omega)))
      have X9 : Hid (GR.Blk W9 w6.heap.size 67 #[.int .u32 p, .int .u64 q, .bool false, .string ⟨#[]⟩]) := Lib.hid (by rw [hW9]; exact X8.out.set_ 1 _)
      clear hW9
      refine (rbyte_at W1.heap.size b st3 x st4 _ R9.out hb HE4.out).mono ?_
      rintro e w10 ⟨rfl, h10, q10⟩
      have R10 := Lib.hid h10
      have C10 := Lib.hid (C9.out.then (chg_g q10))
      have X10 := Lib.hid (X9.out.grown q10 (fun e => by injection e with e; omega))
      have y0 := X10.out.frozen 2
      have y1 : w10.cell? ⟨w6.heap.size, 2, none⟩ = some (.bool false) := X10.out.cell 2
      clear h10 q10
      go_wp2_with fail
      clear y0 y1
      obtain ⟨W11, hW11⟩ : ∃ W11 : World, W11 = w10.setCell ⟨w6.heap.size, 2, none⟩ (.bool gb) := ⟨_, rfl⟩
      rw [← hW11]
      have R11 : Hid (Rdr W11 W1.heap.size b st4) := Lib.hid (by rw [hW11]; exact R10.out.far hgn _)
      have C11 : Hid (Chg (fun k => k = W1.heap.size) w6 W11) := Lib.hid (by rw [hW11]; exact C10.out.trans (T := fun k => k = w6.heap.size) (chg_set 2 _ (.inl rfl)) (fun i hi e => absurd hi (by omega)))
      have X11 : Hid (GR.Blk W11 w6.heap.size 67 #[.int .u32 p, .int .u64 q, .bool gb, .string ⟨#[]⟩]) := Lib.hid (by rw [hW11]; exact X10.out.set_ 2 _)
      clear hW11
      refine (rtext_at W1.heap.size b 40 st4 t st5 _ R11.out hb (by omega) HE5.out).mono ?_
      rintro e w12 ⟨rfl, h12, q12⟩
      have R12 := Lib.hid h12
      have C12 := Lib.hid (C11.out.then (chg_g q12))
      have X12 := Lib.hid (X11.out.grown q12 (fun e => by injection e with e; omega))
      have D12 := Lib.hid (D6.out.chg C12.out h12)
      have D13 : Hid (DI w (w12.setCell ⟨w6.heap.size, 3, none⟩ (.string ⟨t.toArray⟩)) w.heap.size W1.heap.size w3.heap.size b st5 (.slice A n c) (.slice C m d) a (srL acc)) := Lib.hid (D6.out.chg (C12.out.trans (T := fun k => k = w6.heap.size) (chg_set 3 _ (.inl rfl)) (fun i hi e => absurd hi (by omega))) (R12.out.far hgn _))
      have hsx : w3.heap.size ≠ w6.heap.size := Nat.ne_of_lt D6.out.s.lt
      have hrx : w.heap.size ≠ w6.heap.size := Nat.ne_of_lt D6.out.r.lt
      have y0 := X12.out.frozen 3
      have y1 : w12.cell? ⟨w6.heap.size, 0, none⟩ = some (.int .u32 p) := X12.out.cell 0
      have y2 : w12.cell? ⟨w6.heap.size, 1, none⟩ = some (.int .u64 q) := X12.out.cell 1
      have y3 : w12.cell? ⟨w6.heap.size, 2, none⟩ = some (.bool gb) := X12.out.cell 2
      have y4 : w12.cell? ⟨w6.heap.size, 3, none⟩ = some (.string ⟨#[]⟩) := X12.out.cell 3
      clear h12 q12
      by_cases hx1 : x.toNat ≤ 1
      · have l3 : decide ((1 : Int) < (x.toNat : Int)) = false := by simp; omega
        have l4 : decide (1 < x.toNat) = false := by simp; omega
        have HK : Hid (srOk (acc ++ [⟨⟨⟨p, q⟩, gb, ⟨t.toArray⟩⟩, x⟩]) = true) := Lib.hid (by rw [srOk_app, hok.out]; simp [srOk, hx1])
        have y5 : w12.cell? ⟨w3.heap.size, 1, none⟩ = some (.slice C m d) := D12.out.s.cell 1
        have y6 := D12.out.s.frozen 1
        have hl12 : w6.heap.size < w12.heap.size := X12.out.lt
        have hs12 : w3.heap.size < w12.heap.size := D12.out.s.lt
        have HLL : Hid (((srL acc).length + 1) * 40 ≤ 140737488355328) := Lib.hid (by omega)
        have HB12 : Hid (w.heap.size ≤ w12.heap.size) := Lib.hid D12.out.bl.size
        clear hx1
        go_wp2_with (at_builtin; refine GR.app_all (K := sibK) rfl (.tmp 41) (.tmp 43) _ rfl Try.underlying23 hi0 hz0 hz1 hz2 rfl w.heap.size _ (srL acc) rfl (D13.out.l.alloc _) _ 1 1 [⟨⟨p, q⟩, gb, ⟨t.toArray⟩⟩] rfl rfl (GR.rd_new (K := sibK) ⟨⟨p, q⟩, gb, ⟨t.toArray⟩⟩ (by simp [World.setCell]) (by show 40 ≤ 140737488355328; omega)) HLL.out (Nat.le_trans HB12.out (by simp [World.setCell])) ?_; intro v14 w14 ho14 hg14 hat14; obtain ⟨A14, n14, c14, rfl⟩ := own_slice ho14 (by have := HLL.out; rw [List.length_append]; exact this); have O14 := Lib.hid ho14; have G14 := Lib.hid (GR.grown_step (GR.grown_of_bl ((Below.refl _ _).alloc (Nat.le_refl _) _) _) hg14 (.inl rfl)); have D14 := Lib.hid (D13.out.put O14.out G14.out); have z0 : w14.cell? ⟨w3.heap.size, 1, none⟩ = some (.slice C m d) := (D13.out.s.grown G14.out (fun e => GR.own_blk_ne D13.out.l D13.out.s (by decide) e.symm)).cell 1; have z1 := (D13.out.s.grown G14.out (fun e => GR.own_blk_ne D13.out.l D13.out.s (by decide) e.symm)).frozen 1; clear ho14 hg14 hat14)
        go_roundw
        case rel => exact ⟨k + 1, _, _, st5, by go_num, by omega, Lib.hid (by rw [List.length_append, hacl.out]; rfl), HK, Lib.hid (fun z hz => by
          rcases List.mem_append.1 hz with hz | hz
          · exact hin.out z hz
          · rw [List.mem_singleton] at hz; subst hz; exact HIN.out), Lib.hid (by rw [srL_app]; exact D14.out), HD2⟩
        case measure => simp [intOf]; omega
      · have l3 : decide ((1 : Int) < (x.toNat : Int)) = true := by simp; omega
        have l4 : decide (1 < x.toNat) = true := by simp; omega
        have HV := Lib.hid (dec_bad HE1.out (by rw [HD2.out]; exact rdSibs_bad _ _ _ _ (by rw [srOk_app]; simp [srOk, hx1])))
        have r0 : w12.cell? ⟨w.heap.size, 0, none⟩ = some (.slice none 0 0) := D12.out.r.cell 0
        have r1 : w12.cell? ⟨w.heap.size, 1, none⟩ = some (.slice none 0 0) := D12.out.r.cell 1
        have r2 := D12.out.r.frozen 0
        have r3 := D12.out.r.frozen 1
        clear hx1
        go_wp2
        exact bodyPost_ret (v := .tuple #[.agg #[.slice none 0 0, .slice none 0 0], .int .i64 110]) (by simp [results, Try.results44, go_sem, r0, r1, r2, r3, hrx]) rfl ⟨_, _, by rw [HV.out.2.2], by rw [HV.out.1, HV.out.2.1]; exact ⟨GR.Own.nil _ _ _, GR.Own.nil _ _ _⟩, (D13.out.bl.setCell (p := ⟨w.heap.size, 0, none⟩) (Nat.le_refl _) _).setCell (p := ⟨w.heap.size, 1, none⟩) (Nat.le_refl _) _⟩
    · obtain rfl : k = N := by omega
      have HS : Hid (rdSibs b.data.toList k [] s1 = (acc, st)) := Lib.hid (by rw [hS.out, Nat.sub_self, rdSibs])
      have hnl := hD.out.rd.2
      have hrs : w.heap.size ≠ w3.heap.size := Nat.ne_of_lt hD.out.ne
      have NA : Hid (∀ d ∈ a, 0 ≤ d.n) := Lib.hid (fun d hd => (HAI.out d hd).2.2.1)
      have NL : Hid (∀ x ∈ srL acc, 0 ≤ x.d.n) := Lib.hid (fun x hx => by
        obtain ⟨y, hy, rfl⟩ := List.mem_map.1 hx
        exact (hin.out y hy).1.2.2.1)
      have hal2 : (srL acc).length ≤ 64 := by omega
      obtain ⟨z, hz⟩ : ∃ z, endP b.data.toList st = z := ⟨_, rfl⟩
      have HZ := Lib.hid hz
      by_cases h0 : z = 0
      · subst h0
        clear hz
        go_wp2_with fail
        refine (rend_at W1.heap.size b st 0 _ hD.out.rd HZ.out).mono ?_
        rintro e w6 ⟨rfl, hd6⟩
        have D6 := Lib.hid (hD.out.chg (chg_bl (hd6.below _)) (hD.out.rd.below (hd6.below _)))
        clear hd6
        have r0 : w6.cell? ⟨w.heap.size, 0, none⟩ = some (.slice none 0 0) := D6.out.r.cell 0
        have r1 : w6.cell? ⟨w.heap.size, 1, none⟩ = some (.slice none 0 0) := D6.out.r.cell 1
        have r2 := D6.out.r.frozen 0
        have r3 := D6.out.r.frozen 1
        have m0 : w6.cell? ⟨w3.heap.size, 0, none⟩ = some (.slice A n c) := D6.out.s.cell 0
        have m1 : w6.cell? ⟨w3.heap.size, 1, none⟩ = some (.slice C m d) := D6.out.s.cell 1
        go_wp2_with fail
        clear m0 m1 r0 r1 r2 r3
        refine (dvalid_at A C n c m d w.heap.size a (srL acc) _ D6.out.d D6.out.l hal hal2 NA.out NL.out).mono ?_
        rintro e w7 ⟨rfl, hb7⟩
        have D7 := Lib.hid (D6.out.chg (chg_bl hb7) (D6.out.rd.below hb7))
        clear hb7
        have r0 : w7.cell? ⟨w.heap.size, 0, none⟩ = some (.slice none 0 0) := D7.out.r.cell 0
        have r1 : w7.cell? ⟨w.heap.size, 1, none⟩ = some (.slice none 0 0) := D7.out.r.cell 1
        have r2 := D7.out.r.frozen 0
        have r3 := D7.out.r.frozen 1
        have m0 : w7.cell? ⟨w3.heap.size, 0, none⟩ = some (.slice A n c) := D7.out.s.cell 0
        have m1 : w7.cell? ⟨w3.heap.size, 1, none⟩ = some (.slice C m d) := D7.out.s.cell 1
        by_cases h1 : staB a (srL acc) = true
        · have HV := Lib.hid (dec_yes HE1.out HS.out hnl HZ.out hok.out (by rw [← HA.out]; exact h1))
          rw [h1]
          clear h1
          go_wp2
          have OF : Hid (OwnS ((w7.setCell ⟨w.heap.size, 0, none⟩ (.slice A n c)).setCell ⟨w.heap.size, 1, none⟩ (.slice C m d)) w.heap.size (.slice A n c) (.slice C m d) a (srL acc)) := Lib.hid ⟨own_farI (own_farI D7.out.d D7.out.r 0 _ (by decide)) (D7.out.r.set_ 0 _) 1 _ (by decide), own_farI (own_farI D7.out.l D7.out.r 0 _ (by decide)) (D7.out.r.set_ 0 _) 1 _ (by decide)⟩
          exact bodyPost_ret (v := .tuple #[.agg #[.slice A n c, .slice C m d], .int .i64 0]) (by simp [results, Try.results44, go_sem, r0, r1, r2, r3, hrs, m0, m1]) rfl ⟨_, _, by rw [HV.out.2.2], by rw [HV.out.1, HV.out.2.1]; rw [← HA.out]; exact OF.out, (D7.out.bl.setCell (p := ⟨w.heap.size, 0, none⟩) (Nat.le_refl _) _).setCell (p := ⟨w.heap.size, 1, none⟩) (Nat.le_refl _) _⟩
        · have h1' : staB a (srL acc) = false := by simpa using h1
          have HV := Lib.hid (dec_inv HE1.out HS.out (by rw [← HA.out]; exact h1'))
          rw [h1']
          clear h1 h1'
          go_wp2
          exact bodyPost_ret (v := .tuple #[.agg #[.slice none 0 0, .slice none 0 0], .int .i64 110]) (by simp [results, Try.results44, go_sem, r0, r1, r2, r3, hrs]) rfl ⟨_, _, by rw [HV.out.2.2], by rw [HV.out.1, HV.out.2.1]; exact ⟨GR.Own.nil _ _ _, GR.Own.nil _ _ _⟩, (D7.out.bl.setCell (p := ⟨w.heap.size, 0, none⟩) (Nat.le_refl _) _).setCell (p := ⟨w.heap.size, 1, none⟩) (Nat.le_refl _) _⟩
      · have HV := Lib.hid (dec_end HE1.out HS.out hnl (by rw [hz]; exact h0))
        have q1 : (z != 0) = true := by simpa using h0
        have q2 : (z == 0) = false := by simpa using h0
        have q3 : decide (z = 0) = false := by simpa using h0
        clear hz h0
        go_wp2_with fail
        refine (rend_at W1.heap.size b st z _ hD.out.rd HZ.out).mono ?_
        rintro e w6 ⟨rfl, hd6⟩
        have D6 := Lib.hid (hD.out.chg (chg_bl (hd6.below _)) (hD.out.rd.below (hd6.below _)))
        clear hd6
        have r0 : w6.cell? ⟨w.heap.size, 0, none⟩ = some (.slice none 0 0) := D6.out.r.cell 0
        have r1 : w6.cell? ⟨w.heap.size, 1, none⟩ = some (.slice none 0 0) := D6.out.r.cell 1
        have r2 := D6.out.r.frozen 0
        have r3 := D6.out.r.frozen 1
        have m0 : w6.cell? ⟨w3.heap.size, 0, none⟩ = some (.slice A n c) := D6.out.s.cell 0
        have m1 : w6.cell? ⟨w3.heap.size, 1, none⟩ = some (.slice C m d) := D6.out.s.cell 1
        go_wp2
        exact bodyPost_ret (v := .tuple #[.agg #[.slice none 0 0, .slice none 0 0], .int .i64 110]) (by simp [results, Try.results44, go_sem, r0, r1, r2, r3, hrs]) rfl ⟨_, _, by rw [HV.out.2.2], by rw [HV.out.1, HV.out.2.1]; exact ⟨GR.Own.nil _ _ _, GR.Own.nil _ _ _⟩, (D6.out.bl.setCell (p := ⟨w.heap.size, 0, none⟩) (Nat.le_refl _) _).setCell (p := ⟨w.heap.size, 1, none⟩) (Nat.le_refl _) _⟩
end Go.Proofs.Ytljfigikkajlnaa

namespace Go.Proofs.Ytljfigikkajlnaa
open Go.RowKit Go.Lib
set_option linter.unusedVariables false
set_option linter.unusedSimpArgs false

theorem duint_at (g : Nat) (b : ByteArray) (most : Nat) (s : RS) (v : Nat) (s' : RS) (w : World) (h : Rdd w g b s) (hb : b.size ≤ 140737488355328) (hm : most < 18446744073709551616) (hr : rdU b.data.toList most s = (v, s')) :
    Calls Try.prog 119 #[.pointer (some ⟨g, 0, none⟩), .int .u64 most] w fun e w' => e = .returned (.int .u64 v) ∧ Rdd w' g b s' ∧ w.grownBy w' (some g) := by
  have := duint_any g b most s w h hb hm
  rw [hr] at this
  exact this
theorem dbyte_at (g : Nat) (b : ByteArray) (s : RS) (c : UInt8) (s' : RS) (w : World) (h : Rdd w g b s) (hb : b.size ≤ 140737488355328) (hr : rdB b.data.toList s = (c, s')) :
    Calls Try.prog 120 #[.pointer (some ⟨g, 0, none⟩)] w fun e w' => e = .returned (.int .u8 c.toNat) ∧ Rdd w' g b s' ∧ w.grownBy w' (some g) := by
  have := dbyte_any g b s w h hb
  rw [hr] at this
  exact this
theorem dtext_at (g : Nat) (b : ByteArray) (most : Nat) (s : RS) (t : List UInt8) (s' : RS) (w : World) (h : Rdd w g b s) (hb : b.size ≤ 140737488355328) (hm : most ≤ 140737488355328) (hr : rdT b.data.toList most s = (t, s')) :
    Calls Try.prog 121 #[.pointer (some ⟨g, 0, none⟩), .int .i64 most] w fun e w' => e = .returned (.string ⟨t.toArray⟩) ∧ Rdd w' g b s' ∧ w.grownBy w' (some g) := by
  have := dtext_any g b most s w h hb hm
  rw [hr] at this
  exact this
theorem Rdd.far {w : World} {g : Nat} {b : ByteArray} {s : RS} {p : Addr} (h : Rdd w g b s) (hp : g ≠ p.block) (u : Value) : Rdd (w.setCell p u) g b s := ⟨h.1.far hp u, h.2⟩

set_option maxRecDepth 100000 in
set_option maxHeartbeats 6400000 in
theorem dtake_any (g : Nat) (b : ByteArray) (s : RS) (w : World) (h : Rdd w g b s) (hb : b.size ≤ 140737488355328) :
    Calls Try.prog 118 #[.pointer (some ⟨g, 0, none⟩)] w fun e w' => ∃ v, e = .returned v ∧ GR.Own dotK w' w.heap.size v (takeV b.data.toList s).1 ∧ Rdd w' g b (takeV b.data.toList s).2 ∧ w.grownBy w' (some g) := by
  obtain ⟨i0, hi0, hz0, hz1, hz2⟩ := info_parts dot_info
  obtain ⟨N, s1, E1⟩ : ∃ N s1, rdU b.data.toList 64 s = (N, s1) := ⟨_, _, rfl⟩
  have hN : N ≤ 64 := by have := rdU_le b.data.toList 64 s; rw [E1] at this; exact this
  have HE1 := Lib.hid E1
  have H := Lib.hid h
  clear h
  clear E1
  go_enter Try.func118, Try.ntmps118
  go_wp2_with fail
  refine (duint_at g b 64 s N s1 _ H.out hb (by omega) HE1.out).mono ?_
  rintro e w1 ⟨rfl, h1, g1⟩
  have H1 := Lib.hid h1
  have G1 := Lib.hid g1
  clear h1 g1
  go_wp2
  go_loopw [4, 5] (fun vl ii w' => ∃ (k : Nat) (acc : List Dot) (st : RS), ii = .int .u64 k ∧ k ≤ N ∧ Hid (acc.length = k) ∧ Hid (∀ d ∈ acc, 0 ≤ d.n) ∧ Hid (GR.Own dotK w' w.heap.size vl acc) ∧ Hid (Rdd w' g b st) ∧ Hid (rdDots b.data.toList N [] s1 = rdDots b.data.toList (N - k) acc st) ∧ Hid (w.grownBy w' (some g))) (fun _ ii _ => N - (intOf ii).toNat)
  case atStart => exact ⟨0, [], s1, rfl, Nat.zero_le _, Lib.hid rfl, Lib.hid (fun d hd => (by cases hd)), Lib.hid (GR.Own.nil _ _ _), H1, Lib.hid rfl, G1⟩
  case round =>
    obtain ⟨k, acc, st, rfl, hk, hal, hap, ho, hR, hD, hG⟩ := hrel
    have hsz := hG.out.size
    by_cases hlt : k < N
    · have l1 : decide ((k : Int) < (N : Int)) = true := by simp; omega
      have l2 : decide (k < N) = true := by simp; omega
      obtain ⟨p, st2, E2⟩ : ∃ p st2, rdU b.data.toList 4294967295 st = (p, st2) := ⟨_, _, rfl⟩
      obtain ⟨q, st3, E3⟩ : ∃ q st3, rdU b.data.toList 1099511627776 st2 = (q, st3) := ⟨_, _, rfl⟩
      have hp : p ≤ 4294967295 := by have := rdU_le b.data.toList 4294967295 st; rw [E2] at this; exact this
      have hq : q ≤ 1099511627776 := by have := rdU_le b.data.toList 1099511627776 st2; rw [E3] at this; exact this
      have HD2 : Hid (rdDots b.data.toList N [] s1 = rdDots b.data.toList (N - (k + 1)) (acc ++ [⟨p, q⟩]) st3) := Lib.hid (by
        rw [hD.out, show N - k = N - (k + 1) + 1 by omega, rdDots, E2]
        simp only
        rw [E3])
      have e1 : IntKind.u32.wrap (p : Int) = (p : Int) := by rw [IntKind.wrap_u32]; omega
      have e2 : IntKind.u64.wrap ((k : Int) + 1) = (k : Int) + 1 := IntWalk.u64_in _ (by omega)
      have HE2 := Lib.hid E2
      have HE3 := Lib.hid E3
      clear E2 E3
      go_wp2_with fail
      refine (duint_at g b 4294967295 st p st2 _ hR.out hb (by omega) HE2.out).mono ?_
      rintro e w2 ⟨rfl, h2, g2⟩
      have R2 := Lib.hid h2
      have O2 := Lib.hid (own_g ho.out hR.out.1 (by decide) g2)
      have G2 := Lib.hid (grown_trans hG.out g2)
      clear h2 g2
      go_wp2_with fail
      refine (duint_at g b 1099511627776 st2 q st3 _ R2.out hb (by omega) HE3.out).mono ?_
      rintro e w3 ⟨rfl, h3, g3⟩
      have R3 := Lib.hid h3
      have O3 := Lib.hid (own_g O2.out R2.out.1 (by decide) g3)
      have G3 := Lib.hid (grown_trans G2.out g3)
      clear h3 g3
      have hs3 : w.heap.size ≤ w3.heap.size := G3.out.size
      have HLL : Hid ((acc.length + 1) * 16 ≤ 140737488355328) := Lib.hid (by have := hal.out; omega)
      go_wp2_with (at_builtin; refine GR.app_one (K := dotK) rfl (.tmp 19) (.tmp 24) _ rfl Try.underlying22 hi0 hz0 hz1 hz2 rfl w.heap.size _ acc ⟨p, q⟩ rfl O3.out rfl HLL.out hs3 ?_; intro v4 w4 ho4 hg4 hat4; have O4 := Lib.hid ho4; have R4 := Lib.hid (show Rdd w4 g b st3 from ⟨R3.out.1.grown hg4 (fun e => GR.own_blk_ne O3.out R3.out.1 (by decide) e.symm), R3.out.2⟩); have G4 := Lib.hid (GR.grown_step G3.out hg4 (.inr (fun b hb => (O3.out.lt b hb).1))); clear ho4 hg4 hat4)
      go_roundw
      case rel => exact ⟨k + 1, _, st3, by go_num, by omega, Lib.hid (by rw [List.length_append, hal.out]; rfl), Lib.hid (fun d hd => by
        rcases List.mem_append.1 hd with hd | hd
        · exact hap.out d hd
        · rw [List.mem_singleton] at hd; subst hd; show (0 : Int) ≤ (q : Int); omega), O4, R4, HD2, G4⟩
      case measure => simp [intOf]; omega
    · obtain rfl : k = N := by omega
      have HD3 : Hid (rdDots b.data.toList k [] s1 = (acc, st)) := Lib.hid (by rw [hD.out, Nat.sub_self, rdDots])
      by_cases h0 : st.e = 0
      · obtain ⟨A, n, c, rfl⟩ := own_slice ho.out (by have := hal.out; show acc.length * 16 ≤ _; omega)
        obtain ⟨e8, _, r8⟩ := ho.out.rd (by have := hal.out; show acc.length * 16 ≤ _; omega)
        have HR8 := Lib.hid r8
        have HH0 := Lib.hid h0
        have HV2 : Hid (Calls Try.prog 78 #[.slice A n c] wr fun e w' => e = .returned (.bool (vecB acc)) ∧ Below wr.heap.size wr w') := Lib.hid (by rw [e8]; exact (refVec_any A c acc _ HR8.out hap.out).mono fun _ _ ⟨h, hd⟩ => ⟨h, hd.below _⟩)
        have y0 : wr.cell? ⟨g, 2, none⟩ = some (.int .i64 0) := by rw [← h0]; exact hR.out.1.cell 2
        clear r8 e8 h0
        go_wp2_with fail
        clear y0
        refine (HV2.out).mono ?_
        rintro e w5 ⟨rfl, h5⟩
        have R5 := Lib.hid (hR.out.below h5)
        have O5 := Lib.hid (ho.out.below h5)
        have G5 := Lib.hid (grown_trans hG.out (GR.grown_of_bl h5 (some g)))
        clear h5
        by_cases hv : vecB acc = true
        · have HT : Hid (takeV b.data.toList s = (acc, st)) := Lib.hid (takeV_yes HE1.out HD3.out HH0.out hv)
          have y1 : w5.cell? ⟨g, 2, none⟩ = some (.int .i64 0) := by rw [← HH0.out]; exact R5.out.1.cell 2
          rw [hv]
          clear hv
          go_wp2
          go_ret
          rw [HT.out]
          exact ⟨_, rfl, O5.out, R5.out, G5.out⟩
        · have hv' : vecB acc = false := by simpa using hv
          have HT : Hid (takeV b.data.toList s = ([], ⟨st.n, 100⟩)) := Lib.hid (takeV_not HE1.out HD3.out HH0.out hv')
          rw [hv']
          clear hv hv'
          go_wp2_with fail
          refine (dFail_any g b st 100 _ R5.out).mono ?_
          rintro e w6 ⟨rfl, h6, g6⟩
          rw [show failS st 100 = ⟨st.n, 100⟩ by rw [failS, if_pos HH0.out]] at h6
          have R6 := Lib.hid h6
          have G6 := Lib.hid (grown_trans G5.out g6)
          have y1 : w6.cell? ⟨g, 2, none⟩ = some (.int .i64 100) := h6.1.cell 2
          clear h6 g6
          go_wp2
          go_ret
          rw [HT.out]
          exact ⟨_, rfl, GR.Own.nil _ _ _, R6.out, G6.out⟩
      · have HT : Hid (takeV b.data.toList s = ([], st)) := Lib.hid (takeV_bad HE1.out (by rw [HD3.out]) h0)
        obtain ⟨z, hz⟩ : ∃ z, z = st.e := ⟨_, rfl⟩
        rw [← hz] at h0
        have q1 : (z != 0) = true := by simpa using h0
        have q2 : (z == 0) = false := by simpa using h0
        have q3 : decide (z = 0) = false := by simpa using h0
        have y0 : wr.cell? ⟨g, 2, none⟩ = some (.int .i64 z) := by rw [hz]; exact hR.out.1.cell 2
        clear h0 hz
        go_wp2
        go_ret
        rw [HT.out]
        exact ⟨_, rfl, GR.Own.nil _ _ _, hR.out, hG.out⟩

/-- What stands while the document takes a state. -/
structure DJ (w0 w : World) (R g S : Nat) (b : ByteArray) (st : RS) (v vs : Value) (a : List Dot) (l : List Sib) : Prop where
  r : GR.Blk w R 25 #[.slice none 0 0, .slice none 0 0]
  s : GR.Blk w S 25 #[v, vs]
  rd : Rdd w g b st
  d : GR.Own dotK w w0.heap.size v a
  l : GR.Own sibK w w0.heap.size vs l
  ne : R < S
  lr : w0.heap.size ≤ R
  gb : w0.grownBy w (some g)
theorem DJ.chg {w0 w w' : World} {R g S : Nat} {b : ByteArray} {st st' : RS} {v vs : Value} {a : List Dot} {l : List Sib} (h : DJ w0 w R g S b st v vs a l) (hc : w.grownBy w' (some g)) (hr : Rdd w' g b st') : DJ w0 w' R g S b st' v vs a l :=
  ⟨h.r.grown hc (fun e => h.r.ne_ h.rd.1 (by decide) (by injection e)), h.s.grown hc (fun e => h.s.ne_ h.rd.1 (by decide) (by injection e)), hr,
   own_g h.d h.rd.1 (by decide) hc, own_g h.l h.rd.1 (by decide) hc, h.ne, h.lr, grown_trans h.gb hc⟩
theorem DJ.put {w0 w w' : World} {R g S : Nat} {b : ByteArray} {st : RS} {v vs v' : Value} {a : List Dot} {l l' : List Sib} (h : DJ w0 w R g S b st v vs a l) (ho : GR.Own sibK w' w0.heap.size v' l') (hg : w.grownBy w' vs.ownBlock) : DJ w0 (w'.setCell ⟨S, 1, none⟩ v') R g S b st v v' a l' := by
  have r1 := h.r.grown hg (fun e => GR.own_blk_ne h.l h.r (by decide) e.symm)
  have s1 := h.s.grown hg (fun e => GR.own_blk_ne h.l h.s (by decide) e.symm)
  have d1 := h.d.grown hg (own_apart h.d h.l (by decide))
  have g1 : Rdd w' g b st := ⟨h.rd.1.grown hg (fun e => GR.own_blk_ne h.l h.rd.1 (by decide) e.symm), h.rd.2⟩
  exact ⟨r1.far (show R ≠ S from Nat.ne_of_lt h.ne) _, s1.set_ 1 _, g1.far (show g ≠ S from fun e => h.rd.1.ne_ h.s (by decide) e) _,
    own_farI d1 s1 1 _ (by decide), own_farI ho s1 1 _ (by decide), h.ne, h.lr,
    GR.grown_step (GR.grown_step h.gb hg (.inr (fun k hk => (h.l.lt k hk).1))) (grown_set (g := S) 1 v') (.inr (fun k e => by injection e with e; subst e; exact Nat.le_trans h.lr (Nat.le_of_lt h.ne)))⟩

set_option maxRecDepth 100000 in
set_option maxHeartbeats 12800000 in
theorem stake_any (g : Nat) (b : ByteArray) (w : World) (h : Rdd w g b ⟨0, 0⟩) (hb : b.size ≤ 140737488355328) :
    Calls Try.prog 86 #[.pointer (some ⟨g, 0, none⟩)] w fun e w' => ∃ v1 v2, e = .returned (.agg #[v1, v2]) ∧ OwnS w' w.heap.size v1 v2 (takeV b.data.toList ⟨0, 0⟩).1 (srL (takeS b.data.toList).1) ∧ Rdd w' g b (takeS b.data.toList).2 ∧ w.grownBy w' (some g) := by
  obtain ⟨i0, hi0, hz0, hz1, hz2⟩ := info_parts sib_info
  obtain ⟨N, s1, E1⟩ : ∃ N s1, takeN b.data.toList = (N, s1) := ⟨_, _, rfl⟩
  have E1' : rdU b.data.toList 64 (takeV b.data.toList ⟨0, 0⟩).2 = (N, s1) := E1
  have hN : N ≤ 64 := by have := rdU_le b.data.toList 64 (takeV b.data.toList ⟨0, 0⟩).2; rw [E1'] at this; exact this
  have HE1' := Lib.hid E1'
  have HTS : Hid (takeS b.data.toList = rdSibs b.data.toList N [] s1) := Lib.hid (by rw [takeS, E1])
  clear E1 E1'
  obtain ⟨a, ha⟩ : ∃ a, a = (takeV b.data.toList ⟨0, 0⟩).1 := ⟨_, rfl⟩
  have hal : a.length ≤ 64 := by rw [ha]; exact takeV_len _ _
  have HA := Lib.hid ha
  have H := Lib.hid h
  have hg : g < w.heap.size := h.1.lt
  clear ha h
  rw [← HA.out]
  go_enter Try.func86, Try.ntmps86
  go_wp2_with fail
  obtain ⟨W1, hW1⟩ : ∃ W1 : World, W1 = w.alloc (.cells #[.slice none 0 0, .slice none 0 0] 25) := ⟨_, rfl⟩
  rw [← hW1]
  have G1 : Hid (w.grownBy W1 (some g)) := Lib.hid (GR.grown_of_bl (by rw [hW1]; exact (by repeat (first | exact Below.refl _ _ | refine bl_drewN ?_ _ | refine bl_drew ?_ | refine bl_alloc ?_ _))) _)
  have X1 : Hid (GR.Blk W1 w.heap.size 25 #[.slice none 0 0, .slice none 0 0]) := Lib.hid (by rw [hW1]; exact GR.Blk.new _ _ _)
  have R1 : Hid (Rdd W1 g b ⟨0, 0⟩) := Lib.hid (H.out.below (by rw [hW1]; exact (by repeat (first | exact Below.refl _ _ | refine bl_drewN ?_ _ | refine bl_drew ?_ | refine bl_alloc ?_ _))))
  clear hW1
  refine (dtake_any g b ⟨0, 0⟩ _ R1.out hb).mono ?_
  rintro e w3 ⟨v, rfl, o3, h3, g3⟩
  rw [← HA.out] at o3
  obtain ⟨A, n, c, rfl⟩ := own_slice o3 (by show a.length * 16 ≤ _; omega)
  have R3 := Lib.hid h3
  have O3 := Lib.hid (o3.base G1.out.size)
  have G3 := Lib.hid (grown_trans G1.out g3)
  have X3 := Lib.hid (X1.out.grown g3 (fun e => X1.out.ne_ R1.out.1 (by decide) (by injection e)))
  clear h3 g3 o3
  go_wp2_with fail
  obtain ⟨W4, hW4⟩ : ∃ W4 : World, W4 = w3.alloc (.cells #[.slice A n c, .slice none 0 0] 25) := ⟨_, rfl⟩
  rw [← hW4]
  have D4 : Hid (DJ w W4 w.heap.size g w3.heap.size b (takeV b.data.toList ⟨0, 0⟩).2 (.slice A n c) (.slice none 0 0) a []) := Lib.hid (by
    have hb4 : Below w3.heap.size w3 W4 := by rw [hW4]; exact (by repeat (first | exact Below.refl _ _ | refine bl_drewN ?_ _ | refine bl_drew ?_ | refine bl_alloc ?_ _))
    exact ⟨X3.out.below hb4 X3.out.lt, by rw [hW4]; exact GR.Blk.new _ _ _, R3.out.below hb4, O3.out.below hb4, GR.Own.nil _ _ _, X3.out.lt, Nat.le_refl _, grown_trans G3.out (GR.grown_of_bl hb4 _)⟩)
  clear hW4
  refine (duint_at g b 64 _ N s1 _ D4.out.rd hb (by omega) HE1'.out).mono ?_
  rintro e w5 ⟨rfl, h5, g5⟩
  have D5 := Lib.hid (D4.out.chg g5 h5)
  clear h5 g5
  go_wp2
  go_loopw [5] (fun ii w' => ∃ (k : Nat) (vs : Value) (acc : List SR) (st : RS), ii = .int .u64 k ∧ k ≤ N ∧ Hid (acc.length = k) ∧ Hid (DJ w w' w.heap.size g w3.heap.size b st (.slice A n c) vs a (srL acc)) ∧ Hid (rdSibs b.data.toList N [] s1 = rdSibs b.data.toList (N - k) acc st)) (fun ii _ => N - (intOf ii).toNat)
  case atStart => exact ⟨0, _, [], s1, rfl, Nat.zero_le _, Lib.hid rfl, D5, Lib.hid rfl⟩
  case round =>
    obtain ⟨k, vs, acc, st, rfl, hk, hacl, hD, hS⟩ := hrel
    have hlen : (srL acc).length = k := by rw [srL_len]; exact hacl.out
    obtain ⟨C, m, d, rfl⟩ := own_slice hD.out.l (by show (srL acc).length * 40 ≤ _; omega)
    by_cases hlt : k < N
    · have l1 : decide ((k : Int) < (N : Int)) = true := by simp; omega
      have l2 : decide (k < N) = true := by simp; omega
      obtain ⟨p, st2, E2⟩ : ∃ p st2, rdU b.data.toList 4294967295 st = (p, st2) := ⟨_, _, rfl⟩
      obtain ⟨q, st3, E3⟩ : ∃ q st3, rdU b.data.toList 1099511627776 st2 = (q, st3) := ⟨_, _, rfl⟩
      obtain ⟨x, st4, E4⟩ : ∃ x st4, rdB b.data.toList st3 = (x, st4) := ⟨_, _, rfl⟩
      obtain ⟨t, st5, E5⟩ : ∃ t st5, rdT b.data.toList 40 st4 = (t, st5) := ⟨_, _, rfl⟩
      have hp : p ≤ 4294967295 := by have := rdU_le b.data.toList 4294967295 st; rw [E2] at this; exact this
      obtain ⟨gb, hgb⟩ : ∃ gb : Bool, gb = (x == 1) := ⟨_, rfl⟩
      have ES : rdSib b.data.toList st = (⟨⟨⟨p, q⟩, gb, ⟨t.toArray⟩⟩, x⟩, st5) := by
        simp only [rdSib, rdA, rdC, rdG, rdV, E2, E3, E4, E5, hgb]
      have HD2 : Hid (rdSibs b.data.toList N [] s1 = rdSibs b.data.toList (N - (k + 1)) (acc ++ [⟨⟨⟨p, q⟩, gb, ⟨t.toArray⟩⟩, x⟩]) st5) := Lib.hid (by
        rw [hS.out, show N - k = N - (k + 1) + 1 by omega, rdSibs, ES])
      have h256 := x.toNat_lt
      obtain ⟨g1, g2, g3⟩ := gone_tests x gb hgb
      have e1 : IntKind.u32.wrap (p : Int) = (p : Int) := by rw [IntKind.wrap_u32]; omega
      have e2 : IntKind.u64.wrap ((k : Int) + 1) = (k : Int) + 1 := IntWalk.u64_in _ (by omega)
      have HE2 := Lib.hid E2
      have HE3 := Lib.hid E3
      have HE4 := Lib.hid E4
      have HE5 := Lib.hid E5
      clear E2 E3 E4 E5 ES hgb
      go_wp2_with fail
      refine (duint_at g b 4294967295 st p st2 _ hD.out.rd hb (by omega) HE2.out).mono ?_
      rintro e w6 ⟨rfl, h6, q6⟩
      have D6 := Lib.hid (hD.out.chg q6 h6)
      clear h6 q6
      go_wp2_with fail
      refine (duint_at g b 1099511627776 st2 q st3 _ D6.out.rd hb (by omega) HE3.out).mono ?_
      rintro e w7 ⟨rfl, h7, q7⟩
      have D7 := Lib.hid (D6.out.chg q7 h7)
      clear h7 q7
      go_wp2_with fail
      refine (dbyte_at g b st3 x st4 _ D7.out.rd hb HE4.out).mono ?_
      rintro e w8 ⟨rfl, h8, q8⟩
      have D8 := Lib.hid (D7.out.chg q8 h8)
      clear h8 q8
      go_wp2_with fail
      refine (dtext_at g b 40 st4 t st5 _ D8.out.rd hb (by omega) HE5.out).mono ?_
      rintro e w9 ⟨rfl, h9, q9⟩
      have D9 := Lib.hid (D8.out.chg q9 h9)
      clear h9 q9
      have y5 : w9.cell? ⟨w3.heap.size, 1, none⟩ = some (.slice C m d) := D9.out.s.cell 1
      have y6 := D9.out.s.frozen 1
      have hs9 : w3.heap.size < w9.heap.size := D9.out.s.lt
      have HLL : Hid (((srL acc).length + 1) * 40 ≤ 140737488355328) := Lib.hid (by omega)
      have HB9 : w.heap.size ≤ w9.heap.size := D9.out.gb.size
      go_wp2_with (at_builtin; refine GR.app_one (K := sibK) rfl (.tmp 29) (.tmp 38) _ rfl Try.underlying23 hi0 hz0 hz1 hz2 rfl w.heap.size _ (srL acc) ⟨⟨p, q⟩, gb, ⟨t.toArray⟩⟩ rfl D9.out.l rfl HLL.out HB9 ?_; intro v14 w14 ho14 hg14 hat14; obtain ⟨A14, n14, c14, rfl⟩ := own_slice ho14 (by have := HLL.out; rw [List.length_append]; exact this); have D14 := Lib.hid (D9.out.put ho14 hg14); have z0 : w14.cell? ⟨w3.heap.size, 1, none⟩ = some (.slice C m d) := (D9.out.s.grown hg14 (fun e => GR.own_blk_ne D9.out.l D9.out.s (by decide) e.symm)).cell 1; have z1 := (D9.out.s.grown hg14 (fun e => GR.own_blk_ne D9.out.l D9.out.s (by decide) e.symm)).frozen 1; clear ho14 hg14 hat14)
      go_roundw
      case rel => exact ⟨k + 1, _, _, st5, by go_num, by omega, Lib.hid (by rw [List.length_append, hacl.out]; rfl), Lib.hid (by rw [srL_app]; exact D14.out), HD2⟩
      case measure => simp [intOf]; omega
    · obtain rfl : k = N := by omega
      have HS : Hid (takeS b.data.toList = (acc, st)) := Lib.hid (by rw [HTS.out, hS.out, Nat.sub_self, rdSibs])
      have hrs : w.heap.size ≠ w3.heap.size := Nat.ne_of_lt hD.out.ne
      have r0 : wr.cell? ⟨w.heap.size, 0, none⟩ = some (.slice none 0 0) := hD.out.r.cell 0
      have r1 : wr.cell? ⟨w.heap.size, 1, none⟩ = some (.slice none 0 0) := hD.out.r.cell 1
      have r2 := hD.out.r.frozen 0
      have r3 := hD.out.r.frozen 1
      have m0 : wr.cell? ⟨w3.heap.size, 0, none⟩ = some (.slice A n c) := hD.out.s.cell 0
      have m1 : wr.cell? ⟨w3.heap.size, 1, none⟩ = some (.slice C m d) := hD.out.s.cell 1
      have OF : Hid (OwnS ((wr.setCell ⟨w.heap.size, 0, none⟩ (.slice A n c)).setCell ⟨w.heap.size, 1, none⟩ (.slice C m d)) w.heap.size (.slice A n c) (.slice C m d) a (srL acc)) := Lib.hid ⟨own_farI (own_farI hD.out.d hD.out.r 0 _ (by decide)) (hD.out.r.set_ 0 _) 1 _ (by decide), own_farI (own_farI hD.out.l hD.out.r 0 _ (by decide)) (hD.out.r.set_ 0 _) 1 _ (by decide)⟩
      have hgr : g ≠ w.heap.size := Nat.ne_of_lt hg
      have GF : Hid (w.grownBy ((wr.setCell ⟨w.heap.size, 0, none⟩ (.slice A n c)).setCell ⟨w.heap.size, 1, none⟩ (.slice C m d)) (some g)) := Lib.hid (GR.grown_step (GR.grown_step hD.out.gb (grown_set (g := w.heap.size) 0 _) (.inr (fun k e => by injection e with e; subst e; exact Nat.le_refl _))) (grown_set (g := w.heap.size) 1 _) (.inr (fun k e => by injection e with e; subst e; exact Nat.le_refl _)))
      go_wp2
      exact bodyPost_ret (v := .agg #[.slice A n c, .slice C m d]) (by simp [results, Try.results86, go_sem, r0, r1, r2, r3, hrs, m0, m1]) rfl ⟨_, _, rfl, by rw [HS.out]; exact OF.out, by rw [HS.out]; exact (hD.out.rd.far hgr _).far hgr _, GF.out⟩
end Go.Proofs.Ytljfigikkajlnaa

namespace Go.Proofs.Ytljfigikkajlnaa
open Go.RowKit Go.Lib
set_option linter.unusedVariables false
set_option linter.unusedSimpArgs false

theorem dec_no {b : List UInt8} (h : decB b = false) : decA b = [] ∧ decL b = [] ∧ decE b = 110 := by
  simp [decA, decL, decE, h]
theorem dec_si {b : List UInt8} (h : decB b = true) : decA b = (takeV b ⟨0, 0⟩).1 ∧ decL b = srL (takeS b).1 ∧ decE b = 0 := by
  rw [decA, decL, decE, if_pos h, if_pos h, if_pos h]
  exact ⟨rfl, rfl, rfl⟩
theorem end_iff {b : List UInt8} {st : RS} (hn : st.n ≤ b.length) : endP b st = 0 ↔ st.e = 0 ∧ st.n = b.length := by
  unfold endP
  split
  · rename_i h
    constructor
    · intro h1; exact absurd h1 (by decide)
    · rintro ⟨_, h2⟩; omega
  · rename_i h
    constructor
    · intro h1; exact ⟨h1, by omega⟩
    · rintro ⟨h1, _⟩; exact h1
theorem refEncode_at (A C : Option Addr) (n c m d B : Nat) (a : List Dot) (l : List Sib) (w : World) (ho : GR.Own dotK w B (.slice A n c) a) (hs : GR.Own sibK w B (.slice C m d) l) (ha : a.length ≤ 64) (hl : l.length ≤ 64) (na : ∀ d ∈ a, DotIn d) (nl : ∀ x ∈ l, DotIn x.d) :
    Calls Try.prog 67 #[.agg #[.slice A n c, .slice C m d]] w fun e w' => e = .returned (.tuple #[.string (encT a l), .int .i64 (encE a l)]) ∧ Below w.heap.size w w' := by
  obtain ⟨e1, _, r1⟩ := ho.rd (by show a.length * 16 ≤ _; omega)
  obtain ⟨e2, _, r2⟩ := hs.rd (by show l.length * 40 ≤ _; omega)
  subst e1 e2
  exact refEncode_any A C c d a l w r1 r2 (fun d hd => (na d hd).2.2.1) (fun x hx => (nl x hx).2.2.1) (fun d hd => ⟨(na d hd).1, (na d hd).2.1⟩) (fun x hx => ⟨(nl x hx).1, (nl x hx).2.1⟩)

set_option maxRecDepth 100000 in
set_option maxHeartbeats 12800000 in
theorem refDecode_any (b : ByteArray) (w : World) (hb : b.size ≤ 140737488355328) :
    Calls Try.prog 38 #[.string b] w fun e w' => ∃ v1 v2, e = .returned (.tuple #[.agg #[v1, v2], .int .i64 (decE b.data.toList)]) ∧ OwnS w' w.heap.size v1 v2 (decA b.data.toList) (decL b.data.toList) ∧ Below w.heap.size w w' := by
  obtain ⟨a, ha⟩ : ∃ a, a = (takeV b.data.toList ⟨0, 0⟩).1 := ⟨_, rfl⟩
  obtain ⟨l, hl⟩ : ∃ l, l = srL (takeS b.data.toList).1 := ⟨_, rfl⟩
  have hal : a.length ≤ 64 := by rw [ha]; exact takeV_len _ _
  have hll : l.length ≤ 64 := by rw [hl, srL_len]; exact takeS_len _
  have HAI : Hid (∀ d ∈ a, DotIn d) := Lib.hid (by rw [ha]; exact takeV_in _ _)
  have HLI : Hid (∀ x ∈ l, DotIn x.d) := Lib.hid (fun x hx => by
    rw [hl] at hx
    obtain ⟨y, hy, rfl⟩ := List.mem_map.1 hx
    exact (takeS_in _ y hy).1)
  have HB : Hid (decB b.data.toList = (decide ((takeS b.data.toList).2.e = 0 ∧ (takeS b.data.toList).2.n = b.data.toList.length) && staB a l && decide (encS a l = b.data.toList))) := Lib.hid (by rw [dec_doc, ← ha, ← hl])
  have HY : Hid (decB b.data.toList = true → decA b.data.toList = a ∧ decL b.data.toList = l ∧ decE b.data.toList = 0) := Lib.hid (fun h => by rw [ha, hl]; exact dec_si h)
  have HA := Lib.hid ha
  have HL := Lib.hid hl
  clear ha hl
  go_enter Try.func38, Try.ntmps38
  go_wp2_with fail
  obtain ⟨W1, hW1⟩ : ∃ W1 : World, W1 = (w.alloc (.cells #[.slice none 0 0, .slice none 0 0] 25)).alloc (.cells #[.string b, .int .i64 0, .int .i64 0] 116) := ⟨_, rfl⟩
  rw [← hW1]
  have LW : Hid (Below w.heap.size w W1) := Lib.hid (by rw [hW1]; exact (by repeat (first | exact Below.refl _ _ | refine bl_drewN ?_ _ | refine bl_drew ?_ | refine bl_alloc ?_ _)))
  have X1 : Hid (GR.Blk W1 w.heap.size 25 #[.slice none 0 0, .slice none 0 0]) := Lib.hid (by rw [hW1]; exact (GR.Blk.new _ _ _).alloc _)
  have R1 : Hid (Rdd W1 (w.heap.size + 1) b ⟨0, 0⟩) := Lib.hid ⟨by rw [hW1]; exact new_at _ _ _ (by simp), Nat.zero_le _⟩
  clear hW1
  refine (stake_any (w.heap.size + 1) b W1 R1.out hb).mono ?_
  rintro e w2 ⟨v1, v2, rfl, o2, h2, g2⟩
  rw [← HA.out, ← HL.out] at o2
  obtain ⟨A, n, c, rfl⟩ := own_slice o2.d (by show a.length * 16 ≤ _; omega)
  obtain ⟨C, m, d, rfl⟩ := own_slice o2.s (by show l.length * 40 ≤ _; omega)
  have R2 := Lib.hid h2
  have O2 := Lib.hid (o2.base LW.out.size)
  have B2 := Lib.hid (LW.out.trans ((chg_g g2).below LW.out.size (fun k e => by subst e; exact Nat.le_succ _)))
  have X2 := Lib.hid (X1.out.grown g2 (fun e => by injection e with e; omega))
  clear h2 g2 o2
  go_wp2_with fail
  obtain ⟨W3, hW3⟩ : ∃ W3 : World, W3 = w2.alloc (.cells #[.slice A n c, .slice C m d] 25) := ⟨_, rfl⟩
  rw [← hW3]
  have L3 : Hid (Below w2.heap.size w2 W3) := Lib.hid (by rw [hW3]; exact (by repeat (first | exact Below.refl _ _ | refine bl_drewN ?_ _ | refine bl_drew ?_ | refine bl_alloc ?_ _)))
  have S3 : Hid (GR.Blk W3 w2.heap.size 25 #[.slice A n c, .slice C m d]) := Lib.hid (by rw [hW3]; exact GR.Blk.new _ _ _)
  clear hW3
  refine (refEncode_at A C n c m d w.heap.size a l _ (O2.out.d.below L3.out) (O2.out.s.below L3.out) hal hll HAI.out HLI.out).mono ?_
  rintro e w4 ⟨rfl, hb4⟩
  have L4 := Lib.hid (bl_then L3.out hb4)
  have S4 := Lib.hid (S3.out.below hb4 S3.out.lt)
  have R4 := Lib.hid (R2.out.below L4.out)
  clear hb4
  obtain ⟨z, hz⟩ : ∃ z, endP b.data.toList (takeS b.data.toList).2 = z := ⟨_, rfl⟩
  have HZ := Lib.hid hz
  obtain ⟨x, hx⟩ : ∃ x, x = encE a l := ⟨_, rfl⟩
  obtain ⟨t, ht⟩ : ∃ t, t = encT a l := ⟨_, rfl⟩
  have HX := Lib.hid hx
  have HT := Lib.hid ht
  rw [← hx, ← ht]
  have HEI : Hid (z = 0 ↔ (takeS b.data.toList).2.e = 0 ∧ (takeS b.data.toList).2.n = b.data.toList.length) := Lib.hid (by rw [← hz]; exact end_iff R2.out.2)
  clear hz hx ht
  go_wp2_with fail
  refine (dend_at (w.heap.size + 1) b _ z _ R4.out HZ.out).mono ?_
  rintro e w5 ⟨rfl, hd5⟩
  have L5 := Lib.hid (bl_then L4.out (hd5.below _))
  have S5 := Lib.hid (S4.out.below (hd5.below _) S4.out.lt)
  have X5 := Lib.hid (X2.out.below L5.out X2.out.lt)
  have O5 := Lib.hid (O2.out.below L5.out)
  have B5 := Lib.hid (bl_then B2.out L5.out)
  clear hd5
  have hrs : w.heap.size ≠ w2.heap.size := Nat.ne_of_lt X2.out.lt
  have r0 : w5.cell? ⟨w.heap.size, 0, none⟩ = some (.slice none 0 0) := X5.out.cell 0
  have r1 : w5.cell? ⟨w.heap.size, 1, none⟩ = some (.slice none 0 0) := X5.out.cell 1
  have r2 := X5.out.frozen 0
  have r3 := X5.out.frozen 1
  have m0 : w5.cell? ⟨w2.heap.size, 0, none⟩ = some (.slice A n c) := S5.out.cell 0
  have m1 : w5.cell? ⟨w2.heap.size, 1, none⟩ = some (.slice C m d) := S5.out.cell 1
  have BF : ∀ u v : Value, Below w.heap.size w ((w5.setCell ⟨w.heap.size, 0, none⟩ u).setCell ⟨w.heap.size, 1, none⟩ v) := fun u v => (B5.out.setCell (p := ⟨w.heap.size, 0, none⟩) (Nat.le_refl _) _).setCell (p := ⟨w.heap.size, 1, none⟩) (Nat.le_refl _) _
  have HBF := Lib.hid BF
  clear BF
  by_cases h0 : z = 0
  · by_cases h1 : staB a l = true
    · have hx0 : x = 0 := by rw [HX.out, encE, h1]; rfl
      have ht0 : t.data.toList = encS a l := by rw [HT.out, encT, h1]; simp
      by_cases h2 : encS a l = b.data.toList
      · have hB : decB b.data.toList = true := by rw [HB.out, h1, decide_eq_true h2, decide_eq_true (HEI.out.1 h0)]; rfl
        have HV := Lib.hid (HY.out hB)
        have q1 : (t.toList == b.toList) = true := by
          have : t = b := by apply ByteArray.ext; apply Array.toList_inj.1; rw [ht0]; exact h2
          rw [this]; simp
        have OF : Hid (OwnS ((w5.setCell ⟨w.heap.size, 0, none⟩ (.slice A n c)).setCell ⟨w.heap.size, 1, none⟩ (.slice C m d)) w.heap.size (.slice A n c) (.slice C m d) a l) := Lib.hid ⟨own_farI (own_farI O5.out.d X5.out 0 _ (by decide)) (X5.out.set_ 0 _) 1 _ (by decide), own_farI (own_farI O5.out.s X5.out 0 _ (by decide)) (X5.out.set_ 0 _) 1 _ (by decide)⟩
        subst h0 hx0
        clear h1 h2 hB ht0
        go_wp2
        exact bodyPost_ret (v := .tuple #[.agg #[.slice A n c, .slice C m d], .int .i64 0]) (by simp [results, Try.results38, go_sem, r0, r1, r2, r3, hrs, m0, m1]) rfl ⟨_, _, by rw [HV.out.2.2], by rw [HV.out.1, HV.out.2.1]; exact OF.out, HBF.out _ _⟩
      · have HV := Lib.hid (dec_no (show decB b.data.toList = false by rw [HB.out, decide_eq_false h2]; simp))
        have q1 : (t.toList == b.toList) = false := by
          rw [beq_eq_false_iff_ne]
          intro e
          rw [ByteArray.toList_eq, ByteArray.toList_eq] at e
          exact h2 (ht0.symm.trans e)
        subst h0 hx0
        clear h1 h2 ht0
        go_wp2
        exact bodyPost_ret (v := .tuple #[.agg #[.slice none 0 0, .slice none 0 0], .int .i64 110]) (by simp [results, Try.results38, go_sem, r0, r1, r2, r3, hrs]) rfl ⟨_, _, by rw [HV.out.2.2], by rw [HV.out.1, HV.out.2.1]; exact ⟨GR.Own.nil _ _ _, GR.Own.nil _ _ _⟩, HBF.out _ _⟩
    · have h1' : staB a l = false := by simpa using h1
      have HV := Lib.hid (dec_no (show decB b.data.toList = false by rw [HB.out, h1']; simp))
      have hx0 : x = 110 := by rw [HX.out, encE, h1']; rfl
      subst h0 hx0
      clear h1 h1'
      go_wp2
      exact bodyPost_ret (v := .tuple #[.agg #[.slice none 0 0, .slice none 0 0], .int .i64 110]) (by simp [results, Try.results38, go_sem, r0, r1, r2, r3, hrs]) rfl ⟨_, _, by rw [HV.out.2.2], by rw [HV.out.1, HV.out.2.1]; exact ⟨GR.Own.nil _ _ _, GR.Own.nil _ _ _⟩, HBF.out _ _⟩
  · have HV := Lib.hid (dec_no (show decB b.data.toList = false by rw [HB.out, decide_eq_false (fun h => h0 (HEI.out.2 h))]; simp))
    have q1 : (z != 0) = true := by simpa using h0
    have q2 : (z == 0) = false := by simpa using h0
    have q3 : decide (z = 0) = false := by simpa using h0
    clear h0
    go_wp2
    exact bodyPost_ret (v := .tuple #[.agg #[.slice none 0 0, .slice none 0 0], .int .i64 110]) (by simp [results, Try.results38, go_sem, r0, r1, r2, r3, hrs]) rfl ⟨_, _, by rw [HV.out.2.2], by rw [HV.out.1, HV.out.2.1]; exact ⟨GR.Own.nil _ _ _, GR.Own.nil _ _ _⟩, HBF.out _ _⟩
end Go.Proofs.Ytljfigikkajlnaa
