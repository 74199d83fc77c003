/- DERIVED. The statements' own helper again: two answers are new memory. -/
import Derived.Test.YtejodabmddcanaaSegOver
namespace Go.Proofs.Ytejodabmddcanaa
open Go.RowKit

theorem same_self (A B : Option Addr) (c d : Nat) (l : List Ent) (w : World) (hl : Rd w A l) (hm : Rd w B l) :
    Calls Try.prog 27 #[.slice A l.length c, .slice B l.length d] w fun e w' => e = .returned (.bool true) ∧ Drawn w w' :=
  (same_any A B c d l l w hl hm).mono fun _ _ ⟨he, hd⟩ => ⟨by rw [he]; simp, hd⟩
/-- Two values whose rows are not one. -/
def Apart (u v : Value) : Prop := u.ownBlock = none ∨ u.ownBlock ≠ v.ownBlock
theorem Apart.symm {u v : Value} (h : Apart u v) : Apart v u := by
  rcases h with h | h
  · by_cases h2 : v.ownBlock = none
    · exact .inl h2
    · exact .inr (by rw [h]; exact h2)
  · exact .inr (Ne.symm h)
theorem Apart.of_lt {u v : Value} {B : Nat} (hu : ∀ k, u.ownBlock = some k → k < B) (hv : ∀ k, v.ownBlock = some k → B ≤ k) : Apart u v := by
  by_cases h : u.ownBlock = none
  · exact .inl h
  · refine .inr fun e => ?_
    obtain ⟨k, hk⟩ := Option.ne_none_iff_exists'.1 h
    have h1 := hu k hk
    have h2 := hv k (by rw [← e]; exact hk)
    omega
theorem below_grown {w w' : World} {B : Nat} {row : Option Nat} (hg : w.grownBy w' row) (hB : B ≤ w.heap.size) (hr : ∀ k, row = some k → B ≤ k) : Below B w w' :=
  ⟨hg.os, hg.tape, hg.output, hg.size, fun k hk => hg.block k (by omega) (fun e => by have := hr k e.symm; omega)⟩

set_option maxRecDepth 100000 in
set_option maxHeartbeats 3200000 in
theorem again_any (B : Nat) (v0 v1 v2 v3 : Value) (L l : List Ent) (w : World) (hL : L.length ≤ 4398046511000) (hl : l.length ≤ 4398046511000) (hB : B ≤ w.heap.size)
    (h0 : Own w B v0 L) (h1 : Own w B v1 l) (h2 : Own w B v2 l) (h3 : Own w B v3 l) (a1 : Apart v1 v0) (a2 : Apart v2 v0) (a3 : Apart v3 v0) (b2 : Apart v2 v1) (b3 : Apart v3 v1) :
    Calls Try.prog 26 #[v0, v1, v2, v3] w fun e w' => e = .returned (.bool true) ∧ Below B w w' ∧ ∃ L', L'.length = L.length ∧ Own w' B v0 L' := by
  obtain ⟨i0, hi0, hz0, hz1, hz2⟩ := info_parts entry_info
  have H0 := Lib.hid h0
  have H1 := Lib.hid h1
  have H2 := Lib.hid h2
  have H3 := Lib.hid h3
  have A1 := Lib.hid a1
  have A2 := Lib.hid a2
  have A3 := Lib.hid a3
  have B2 := Lib.hid b2
  have B3 := Lib.hid b3
  clear h0 h1 h2 h3 a1 a2 a3 b2 b3
  obtain ⟨x0, c0, rfl, hc0, r0⟩ := H0.out.rd' (by omega)
  obtain ⟨x1, c1, rfl, hc1, r1⟩ := H1.out.rd' (by omega)
  obtain ⟨x2, c2, rfl, hc2, r2⟩ := H2.out.rd' (by omega)
  obtain ⟨x3, c3, rfl, hc3, r3⟩ := H3.out.rd' (by omega)
  have R1 := Lib.hid r1
  have R2 := Lib.hid r2
  have R3 := Lib.hid r3
  clear r0 r1 r2 r3
  go_enter Try.func26, Try.ntmps26
  go_wp2_with fail
  refine (same_self _ _ _ _ l _ R1.out R3.out).mono ?_
  rintro e w1 ⟨rfl, hd⟩
  have D1 := Lib.hid hd
  clear hd
  go_wp2_with fail
  refine (same_self _ _ _ _ l _ (D1.out.rd R2.out) (D1.out.rd R3.out)).mono ?_
  rintro e w2 ⟨rfl, hd⟩
  have D2 := Lib.hid (D1.out.trans hd)
  clear hd
  have hs2 : w2.heap.size = w.heap.size := D2.out.size
  have bl2 : Hid (Below w.heap.size w w2) := Lib.hid (D2.out.below _)
  have HS2 := Lib.hid hs2
  clear hs2
  go_wp2_with fail
  refine (over_any B _ L _ (by omega) (H0.out.below bl2.out)).mono ?_
  rintro e w3 ⟨⟨q3, rfl⟩, L', hL', ho3, hg3⟩
  have HL3 := Lib.hid hL'
  have HO3 := Lib.hid ho3
  have HG3 := Lib.hid hg3
  clear hL' ho3 hg3
  have K1 := Lib.hid ((H1.out.below bl2.out).grown HG3.out A1.out)
  have K2 := Lib.hid ((H2.out.below bl2.out).grown HG3.out A2.out)
  have K3 := Lib.hid ((H3.out.below bl2.out).grown HG3.out A3.out)
  have hB3 : B ≤ w3.heap.size := by have := HG3.out.size; have := HS2.out; omega
  have Z0 := Lib.hid (Own.lit0 w3 B hB3)
  obtain ⟨hz3, rz3⟩ := HO3.out.rd (by rw [HL3.out]; omega)
  have RZ := Lib.hid (rz3.alloc (.cells #[] 53))
  clear rz3 hz3
  have BL3 := Lib.hid (below_grown HG3.out (by rw [HS2.out]; exact hB) (fun k hk => ((H0.out.below bl2.out).lt k hk).1))
  go_wp2_with (at_builtin; refine app_ents rfl (.tmp 22) (.tmp 23) _ rfl Try.underlying37 hi0 hz0 hz1 hz2 rfl B _ [] rfl Z0.out x0 L.length c0 L' rfl HL3.out.symm RZ.out (by rw [HL3.out]; simp; omega) (by simp; omega) ?_; intro v4 w4 ho4 hg4 hat4; have HO4 := Lib.hid ho4; have HG4 := Lib.hid (bl_of_grown (bl_alloc (Below.refl w3.heap.size w3) _) hg4 (fun b hb => by cases hb; exact Nat.le_refl _)); have HV4 := Lib.hid (show ∀ b, v4.ownBlock = some b → w3.heap.size ≤ b from (fun b hb => by
      rcases hat4 with h | h
      · rw [h] at hb; cases hb; exact Nat.le_refl _
      · rw [h] at hb; cases hb; simp)); clear ho4 hg4 hat4)
  have J1 := Lib.hid (K1.out.below HG4.out)
  have J2 := Lib.hid (K2.out.below HG4.out)
  have J3 := Lib.hid (K3.out.below HG4.out)
  have J0 := Lib.hid (HO3.out.below HG4.out)
  clear K1 K2 K3
  refine (same_self _ _ _ _ l _ (J1.out.rd (by omega)).2 (J3.out.rd (by omega)).2).mono ?_
  rintro e w5 ⟨rfl, hd⟩
  have D5 := Lib.hid hd
  clear hd
  go_wp2_with fail
  refine (same_self _ _ _ _ l _ (D5.out.rd (J2.out.rd (by omega)).2) (D5.out.rd (J3.out.rd (by omega)).2)).mono ?_
  rintro e w6 ⟨rfl, hd⟩
  have D6 := Lib.hid (D5.out.trans hd)
  have bl6 := Lib.hid (D6.out.below w4.heap.size)
  have HS6 := Lib.hid D6.out.size
  clear hd
  have G1 := Lib.hid (J1.out.below bl6.out)
  have G2 := Lib.hid (J2.out.below bl6.out)
  have G3 := Lib.hid (J3.out.below bl6.out)
  have G0 := Lib.hid (J0.out.below bl6.out)
  have G4 := Lib.hid (HO4.out.below bl6.out)
  have hs4 := HG4.out.size
  have hs6 : w6.heap.size = w4.heap.size := HS6.out
  have hB6 : B ≤ w6.heap.size := by omega
  have HS6' := Lib.hid hs6
  clear hs6
  go_wp2_with fail
  refine (spoil_any B _ l _ hl hB6 G1.out).mono ?_
  rintro e w7 ⟨⟨q7, rfl⟩, hg7⟩
  have HG7 := Lib.hid hg7
  clear hg7
  have F2 := Lib.hid (G2.out.grown HG7.out B2.out)
  have F3 := Lib.hid (G3.out.grown HG7.out B3.out)
  have F0 := Lib.hid (G0.out.grown HG7.out A1.out.symm)
  have F4 := Lib.hid (G4.out.grown HG7.out (Apart.of_lt (B := w3.heap.size) (fun k hk => by have h1 := (H1.out.lt k hk).2; have h2 := HG3.out.size; have h3 := HS2.out; omega) HV4.out).symm)
  have L4 : ([] ++ L').length = L.length := by simpa using HL3.out
  obtain ⟨y4, c4, e4, hc4, r4⟩ := F4.out.rd' (by rw [L4]; omega)
  rw [L4] at e4
  subst e4
  have R4 := Lib.hid r4
  clear r4
  go_wp2_with fail
  refine (same_self _ _ _ _ l _ (F2.out.rd (by omega)).2 (F3.out.rd (by omega)).2).mono ?_
  rintro e w8 ⟨rfl, hd⟩
  have D8 := Lib.hid hd
  clear hd
  have R0 := Lib.hid (F0.out.rd (by rw [HL3.out]; omega)).2
  have last := same_self x0 y4 c0 c4 L' w8 (D8.out.rd R0.out) (D8.out.rd (by simpa using R4.out))
  rw [HL3.out] at last
  have LAST := Lib.hid last
  clear last
  go_wp2_with fail
  refine LAST.out.mono ?_
  rintro e w9 ⟨rfl, hd⟩
  have D9 := Lib.hid hd
  clear hd
  go_wp2
  go_ret
  have b6 : Below B w w6 := ((bl2.out.mono hB).trans BL3.out).trans ((HG4.out.mono hB3).trans (bl6.out.mono (by omega)))
  have b7 : Below B w w7 := b6.trans (below_grown HG7.out hB6 (fun k hk => (G1.out.lt k hk).1))
  refine ⟨rfl, (b7.trans (D8.out.below _)).trans (D9.out.below _), L', HL3.out, ?_⟩
  exact (F0.out.below (D8.out.below _)).below (D9.out.below _)
end Go.Proofs.Ytejodabmddcanaa
