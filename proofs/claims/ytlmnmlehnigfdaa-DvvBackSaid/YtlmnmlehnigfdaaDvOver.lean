/- DERIVED. The statements' own helpers: over, spoil. -/
import Derived.Test.YtlmnmlehnigfdaaDvSt
import Derived.Test.YtlmnmlehnigfdaaOver
import Derived.Lib.Strings
import Derived.Laws.Runes
namespace Go.Proofs.Ytlmnmlehnigfdaa
open Go.RowKit
set_option linter.unusedVariables false
set_option linter.unusedSimpArgs false

set_option maxRecDepth 100000 in
set_option maxHeartbeats 3200000 in
theorem over_any (B0 : Nat) (u v : Value) (a : List Dot) (l : List Sib) (w : World) (ho : OwnS w B0 u v a l) (sa : a.length * 16 ≤ 140737488351232) (sl : l.length * 40 ≤ 140737488351232) (na : ∀ d ∈ a, 0 ≤ d.n) (nl : ∀ x ∈ l, 0 ≤ x.d.n) :
    Calls Try.prog 23 #[.agg #[u, v]] w fun e w' => (∃ r, e = .returned r) ∧ ∃ a' l', a'.length = a.length ∧ l'.length = l.length ∧ (∀ d ∈ a', 0 ≤ d.n) ∧ (∀ x ∈ l', 0 ≤ x.d.n) ∧ OwnS w' B0 u v a' l' ∧ Chg (rows2 u v) w w' := by
  obtain ⟨A, c, D, d, rfl, rfl, hac, hld, _, _⟩ := ho.sl (by omega) (by omega)
  have HO := Lib.hid ho
  have NA := Lib.hid na
  have NL := Lib.hid nl
  clear ho na nl
  go_enter Try.func23, Try.ntmps23
  go_wp2_with fail
  obtain ⟨W1, hW1⟩ : ∃ W1 : World, W1 = w.alloc (.cells #[.slice A a.length c, .slice D l.length d] 25) := ⟨_, rfl⟩
  rw [← hW1]
  have LW : Hid (Below w.heap.size w W1) := Lib.hid (by rw [hW1]; exact (by repeat (first | exact Below.refl _ _ | refine bl_drewN ?_ _ | refine bl_drew ?_ | refine bl_alloc ?_ _)))
  have XA : Hid (GR.Blk W1 w.heap.size 25 #[.slice A a.length c, .slice D l.length d]) := Lib.hid (by rw [hW1]; exact GR.Blk.new _ _ _)
  clear hW1
  have HO1 := Lib.hid (HO.out.below LW.out)
  have hw1 : w.heap.size < W1.heap.size := XA.out.lt
  go_loopw [2] (fun i w' => ∃ (k : Nat) (a' : List Dot), k ≤ a.length ∧ i = .int .i64 k ∧ Hid (a'.length = a.length) ∧ Hid (∀ d ∈ a', 0 ≤ d.n) ∧ Hid (OwnS w' B0 (.slice A a.length c) (.slice D l.length d) a' l) ∧ Hid (Chg (rows2 (.slice A a.length c) (.slice D l.length d)) W1 w')) (fun i _ => a.length - (intOf i).toNat)
  case atStart => exact ⟨0, a, Nat.zero_le _, rfl, Lib.hid rfl, NA, HO1, Lib.hid (Chg.refl _ _)⟩
  case round =>
    obtain ⟨k, a', hk, rfl, hla, hna, ho, hc⟩ := hrel
    have p0 : wr.cell? ⟨w.heap.size, 0, none⟩ = some (.slice A a.length c) := (HO1.out.blk XA.out hc.out).cell 0
    have p1 : wr.cell? ⟨w.heap.size, 1, none⟩ = some (.slice D l.length d) := (HO1.out.blk XA.out hc.out).cell 1
    by_cases hlt : k < a.length
    · obtain ⟨g, cap, eg, _, _⟩ := own_lit ho.out.d a.length hla.out (by omega)
      have hA : A = some ⟨g, 0, none⟩ := by injection eg
      subst hA
      clear eg
      have hcell := GR.Own.cells ho.out.d k (by rw [hla.out]; exact hlt)
      obtain ⟨c0, f0⟩ := hcell 0 _ rfl
      obtain ⟨c1, f1⟩ := hcell 1 _ rfl
      replace c0 : wr.cell? ⟨g, k * 2, none⟩ = some _ := c0
      replace c1 : wr.cell? ⟨g, k * 2 + 1, none⟩ = some _ := c1
      replace f0 : wr.frozen? ⟨g, k * 2, none⟩ = false := f0
      replace f1 : wr.frozen? ⟨g, k * 2 + 1, none⟩ = false := f1
      have hgb : g ≠ w.heap.size := fun e => GR.own_blk_ne ho.out.d (HO1.out.blk XA.out hc.out) (by decide) (by rw [← e]; rfl)
      have i0 : (0 : Int) ≤ (k : Int) := by omega
      have i1 : (k : Int) < (a.length : Int) := by omega
      have e1 : IntKind.i64.wrap (500 + (k : Int)) = 500 + (k : Int) := IntWalk.i64_in _ (by omega)
      clear hcell
      go_wp2
      go_roundw
      case rel => exact ⟨k + 1, _, by omega, by go_num, Lib.hid (by rw [List.length_set]; exact hla.out), Lib.hid (all_set hna.out (by show (0 : Int) ≤ 9; omega)),
        Lib.hid ⟨ownd_set ho.out.d k (by rw [hla.out]; exact hlt) _ 9, own_chg ho.out.s ((chg_set (S := fun i => i = g) _ _ (.inl rfl)).then (chg_set _ _ (.inl rfl))) (fun i hi e => own_ne ho.out.s ho.out.d (by decide) i hi (by rw [e]; rfl))⟩,
        Lib.hid ((hc.out.then (chg_set _ _ (.inl (.inl rfl)))).then (chg_set _ _ (.inl (.inl rfl))))⟩
      case measure => simp [intOf]; omega
    · obtain rfl : k = a.length := by omega
      go_wp2
      clear p0 p1
      go_loopw [3] (fun i w' => ∃ (k : Nat) (l' : List Sib), k ≤ l.length ∧ i = .int .i64 k ∧ Hid (l'.length = l.length) ∧ Hid (∀ x ∈ l', 0 ≤ x.d.n) ∧ Hid (OwnS w' B0 (.slice A a.length c) (.slice D l.length d) a' l') ∧ Hid (Chg (rows2 (.slice A a.length c) (.slice D l.length d)) W1 w')) (fun i _ => l.length - (intOf i).toNat)
      case atStart => exact ⟨0, l, Nat.zero_le _, rfl, Lib.hid rfl, NL, ho, hc⟩
      case round =>
        obtain ⟨k, l', hk, rfl, hll, hnl, ho, hc⟩ := hrel
        have p0 : wr.cell? ⟨w.heap.size, 0, none⟩ = some (.slice A a.length c) := (HO1.out.blk XA.out hc.out).cell 0
        have p1 : wr.cell? ⟨w.heap.size, 1, none⟩ = some (.slice D l.length d) := (HO1.out.blk XA.out hc.out).cell 1
        by_cases hlt : k < l.length
        · obtain ⟨g, cap, eg, _, _⟩ := own_lit ho.out.s l.length hll.out (by omega)
          have hA : D = some ⟨g, 0, none⟩ := by injection eg
          subst hA
          clear eg
          have hcell := GR.Own.cells ho.out.s k (by rw [hll.out]; exact hlt)
          obtain ⟨c0, f0⟩ := hcell 0 _ rfl
          obtain ⟨c1, f1⟩ := hcell 1 _ rfl
          obtain ⟨c2, f2⟩ := hcell 2 _ rfl
          obtain ⟨c3, f3⟩ := hcell 3 _ rfl
          replace c0 : wr.cell? ⟨g, k * 4, none⟩ = some _ := c0
          replace c1 : wr.cell? ⟨g, k * 4 + 1, none⟩ = some _ := c1
          replace c2 : wr.cell? ⟨g, k * 4 + 2, none⟩ = some _ := c2
          replace c3 : wr.cell? ⟨g, k * 4 + 3, none⟩ = some _ := c3
          replace f0 : wr.frozen? ⟨g, k * 4, none⟩ = false := f0
          replace f1 : wr.frozen? ⟨g, k * 4 + 1, none⟩ = false := f1
          replace f2 : wr.frozen? ⟨g, k * 4 + 2, none⟩ = false := f2
          replace f3 : wr.frozen? ⟨g, k * 4 + 3, none⟩ = false := f3
          have hgb : g ≠ w.heap.size := fun e => GR.own_blk_ne ho.out.s (HO1.out.blk XA.out hc.out) (by decide) (by rw [← e]; rfl)
          have i0 : (0 : Int) ≤ (k : Int) := by omega
          have i1 : (k : Int) < (l.length : Int) := by omega
          have e1 : IntKind.i64.wrap (500 + (k : Int)) = 500 + (k : Int) := IntWalk.i64_in _ (by omega)
          clear hcell
          go_wp2
          go_roundw
          case rel => exact ⟨k + 1, _, by omega, by go_num, Lib.hid (by rw [List.length_set]; exact hll.out), Lib.hid (all_set hnl.out (by show (0 : Int) ≤ 3; omega)),
            Lib.hid ⟨own_chg ho.out.d ((((chg_set (S := fun i => i = g) _ _ (.inl rfl)).then (chg_set _ _ (.inl rfl))).then (chg_set _ _ (.inl rfl))).then (chg_set _ _ (.inl rfl))) (fun i hi e => own_ne ho.out.d ho.out.s (by decide) i hi (by rw [e]; rfl)), owns_set ho.out.s k (by rw [hll.out]; exact hlt) _ 3 false _⟩,
            Lib.hid ((((hc.out.then (chg_set _ _ (.inl (.inr rfl)))).then (chg_set _ _ (.inl (.inr rfl)))).then (chg_set _ _ (.inl (.inr rfl)))).then (chg_set _ _ (.inl (.inr rfl))))⟩
          case measure => simp [intOf]; omega
        · obtain rfl : k = l.length := by omega
          go_wp2
          go_end0
          exact ⟨⟨_, rfl⟩, a', l', hla.out, hll.out, hna.out, hnl.out, ho.out, (chg_bl LW.out).then hc.out⟩

def behindD : Dot := ⟨8888, 0⟩
def behindS : Sib := ⟨⟨0, 0⟩, false, ⟨#[98, 101, 104, 105, 110, 100]⟩⟩
set_option maxRecDepth 100000 in
set_option maxHeartbeats 3200000 in
theorem spoil_any (B0 : Nat) (u v : Value) (a : List Dot) (l : List Sib) (w : World) (ho : OwnS w B0 u v a l) (hB : B0 ≤ w.heap.size) (sa : a.length * 16 ≤ 140737488351232) (sl : l.length * 40 ≤ 140737488351232) (na : ∀ d ∈ a, 0 ≤ d.n) (nl : ∀ x ∈ l, 0 ≤ x.d.n) :
    Calls Try.prog 49 #[.agg #[u, v]] w fun e w' => (∃ r, e = .returned r) ∧ Chg (rows2 u v) w w' := by
  obtain ⟨i0, hi0, hz0, hz1, hz2⟩ := info_parts dot_info
  obtain ⟨j0, hj0, jz0, jz1, jz2⟩ := info_parts sib_info
  obtain ⟨A, c, D, d, rfl, rfl, hac, hld, _, _⟩ := ho.sl (by omega) (by omega)
  have HO := Lib.hid ho
  have NA := Lib.hid na
  have NL := Lib.hid nl
  clear ho na nl
  go_enter Try.func49, Try.ntmps49
  go_wp2_with fail
  obtain ⟨W1, hW1⟩ : ∃ W1 : World, W1 = w.alloc (.cells #[.slice A a.length c, .slice D l.length d] 25) := ⟨_, rfl⟩
  rw [← hW1]
  have LW : Hid (Below w.heap.size w W1) := Lib.hid (by rw [hW1]; exact (by repeat (first | exact Below.refl _ _ | refine bl_drewN ?_ _ | refine bl_drew ?_ | refine bl_alloc ?_ _)))
  have XA : Hid (GR.Blk W1 w.heap.size 25 #[.slice A a.length c, .slice D l.length d]) := Lib.hid (by rw [hW1]; exact GR.Blk.new _ _ _)
  clear hW1
  have HO1 := Lib.hid (HO.out.below LW.out)
  refine (over_any B0 _ _ a l _ HO1.out sa sl NA.out NL.out).mono ?_
  rintro e w2 ⟨⟨r, rfl⟩, a2, l2, ha2, hl2, _, _, ho2, hc2⟩
  have HA2 := Lib.hid ha2
  have HL2 := Lib.hid hl2
  have HO2 := Lib.hid ho2
  have HC2 := Lib.hid ((chg_bl LW.out).then hc2)
  have p0 : w2.cell? ⟨w.heap.size, 0, none⟩ = some (.slice A a.length c) := (HO1.out.blk XA.out hc2).cell 0
  have p1 : w2.cell? ⟨w.heap.size, 1, none⟩ = some (.slice D l.length d) := (HO1.out.blk XA.out hc2).cell 1
  clear ha2 hl2 ho2 hc2
  go_wp2
  clear p0 p1
  go_loopw [2, 3, 4] (fun x0 y0 i w' => ∃ (x y : Value) (k : Nat) (m : List Dot) (n : List Sib), x = x0 ∧ y = y0 ∧ k ≤ 70 ∧ i = .int .i64 k ∧ Hid (m.length = a.length + k) ∧ Hid (n.length = l.length + k) ∧ Hid (OwnS w' B0 x y m n) ∧ Hid (Chg (rows2 (.slice A a.length c) (.slice D l.length d)) w w') ∧
    Hid (∀ b, b < w.heap.size → rows2 x y b → rows2 (.slice A a.length c) (.slice D l.length d) b)) (fun _ _ i _ => 70 - (intOf i).toNat)
  case atStart => exact ⟨_, _, 0, a2, l2, rfl, rfl, by omega, rfl, HA2, HL2, HO2, HC2, Lib.hid (fun _ _ h => h)⟩
  case round =>
    obtain ⟨x, y, k, m, n, rfl, rfl, hk, rfl, hm, hn, ho, hc, hr⟩ := hrel
    have hsz : w.heap.size ≤ wr.heap.size := hc.out.size
    have hBr : B0 ≤ wr.heap.size := Nat.le_trans hB hsz
    by_cases hlt : k < 70
    · go_wp2_with (first
        | (at_builtin
           refine GR.app_all (K := dotK) rfl (.tmp 15) (.tmp 17) _ rfl Try.underlying22 hi0 hz0 hz1 hz2 rfl B0 x m rfl (ho.out.d.alloc _) _ 1 1 [behindD] rfl rfl (GR.rd_new (K := dotK) behindD rfl (by show 16 ≤ 140737488355328; omega)) (by rw [hm.out]; show (a.length + k + 1) * 16 ≤ _; omega) (Nat.le_trans hBr (by simp)) ?_
           intro v3 w3 ho3 hg3 hat3
           have G3 : Hid (Chg (fun b => x.ownBlock = some b) wr w3) := Lib.hid ((chg_bl (by repeat (first | exact Below.refl _ _ | refine bl_drewN ?_ _ | refine bl_drew ?_ | refine bl_alloc ?_ _))).then (chg_grown hg3 (fun b hb _ => hb)))
           have P3 := Lib.hid (own_chg ho.out.s G3.out (fun i hi h => own_ne ho.out.s ho.out.d (by decide) i hi h))
           have HO3 := Lib.hid ho3
           have HC3 := Lib.hid (hc.out.trans G3.out (fun i hi h => hr.out i hi (.inl h)))
           have HR3 : Hid (∀ b, b < w.heap.size → v3.ownBlock = some b → x.ownBlock = some b) := Lib.hid (fun b hb h => by
             rcases hat3 with h1 | h1
             · rw [← h1]; exact h
             · rw [h1] at h; cases h; exact absurd hb (by simp; omega))
           have hB3 : B0 ≤ w3.heap.size := Nat.le_trans hBr G3.out.size
           have hs3 : w.heap.size ≤ w3.heap.size := HC3.out.size
           clear ho3 hg3 hat3)
        | (at_builtin
           refine GR.app_all (K := sibK) rfl (.tmp 19) (.tmp 21) _ rfl Try.underlying23 hj0 jz0 jz1 jz2 rfl B0 y n rfl (P3.out.alloc _) _ 1 1 [behindS] rfl rfl (GR.rd_new (K := sibK) behindS rfl (by show 40 ≤ 140737488355328; omega)) (by rw [hn.out]; show (l.length + k + 1) * 40 ≤ _; omega) (Nat.le_trans hB3 (by simp)) ?_
           intro v4 w4 ho4 hg4 hat4
           have G4 : Hid (Chg (fun b => y.ownBlock = some b) w3 w4) := Lib.hid ((chg_bl (by repeat (first | exact Below.refl _ _ | refine bl_drewN ?_ _ | refine bl_drew ?_ | refine bl_alloc ?_ _))).then (chg_grown hg4 (fun b hb _ => hb)))
           have Q4 := Lib.hid (own_chg HO3.out G4.out (fun i hi h => own_ne HO3.out P3.out (by decide) i hi h))
           have HO4 := Lib.hid ho4
           have HC4 := Lib.hid (HC3.out.trans G4.out (fun i hi h => hr.out i hi (.inr h)))
           have HR4 : Hid (∀ b, b < w.heap.size → v4.ownBlock = some b → y.ownBlock = some b) := Lib.hid (fun b hb h => by
             rcases hat4 with h1 | h1
             · rw [← h1]; exact h
             · rw [h1] at h; cases h; exact absurd hb (by simp; omega))
           clear ho4 hg4 hat4))
      go_roundw
      case rel => exact ⟨_, _, k + 1, _, _, rfl, rfl, by omega, by go_num, Lib.hid (by rw [List.length_append, hm.out]; rfl), Lib.hid (by rw [List.length_append, hn.out]; rfl), Lib.hid ⟨Q4.out, HO4.out⟩, HC4, Lib.hid (fun b hb h => hr.out b hb (by
        rcases h with h | h
        · exact .inl (HR3.out b hb h)
        · exact .inr (HR4.out b hb h)))⟩
      case measure => simp [intOf]; omega
    · obtain rfl : k = 70 := by omega
      go_wp2
      go_end0
      exact ⟨⟨_, rfl⟩, hc.out⟩
end Go.Proofs.Ytlmnmlehnigfdaa
