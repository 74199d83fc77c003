/- DERIVED. The statements' own helper over: numbers in their kinds' ranges stay so. -/
import Derived.Test.YtlmnmlehnigfdaaDvSt
import Derived.Lib.Strings
import Derived.Laws.Runes
namespace Go.Proofs.Ytlmnmlehnigfdaa
open Go.RowKit
set_option linter.unusedVariables false
set_option linter.unusedSimpArgs false

def DotR (d : Dot) : Prop := 0 ≤ d.n ∧ 0 ≤ d.a ∧ d.a ≤ 4294967295
set_option maxRecDepth 100000 in
set_option maxHeartbeats 3200000 in
theorem overR_any (B0 : Nat) (u v : Value) (a : List Dot) (l : List Sib) (w : World) (ho : OwnS w B0 u v a l) (sa : a.length * 16 ≤ 140737488351232) (sl : l.length * 40 ≤ 140737488351232) (na : ∀ d ∈ a, DotR d) (nl : ∀ x ∈ l, DotR x.d) :
    Calls Try.prog 23 #[.agg #[u, v]] w fun e w' => (∃ r, e = .returned r) ∧ ∃ a' l', a'.length = a.length ∧ l'.length = l.length ∧ (∀ d ∈ a', DotR d) ∧ (∀ x ∈ l', DotR x.d) ∧ OwnS w' B0 u v a' l' ∧ Chg (rows2 u v) w w' := by
  obtain ⟨A, c, D, d, rfl, rfl, hac, hld, _, _⟩ := ho.sl (by omega) (by omega)
  have HO := Lib.hid ho
  have NA := Lib.hid na
  have NL := Lib.hid nl
  clear ho na nl
  go_enter Try.func23, Try.ntmps23
  go_wp2_with fail
  obtain ⟨W1, hW1⟩ : ∃ W1 : World, W1 = w.alloc (.cells #[.slice A a.length c, .slice D l.length d] 25) := ⟨_, rfl⟩
  rw [← hW1]
  have LW : Hid (Below w.heap.size w W1) := Lib.hid (by rw [hW1]; exact (by repeat (first | exact Below.refl _ _ | refine bl_drewN ?_ _ | refine bl_drew ?_ | refine bl_alloc ?_ _)))
  have XA : Hid (GR.Blk W1 w.heap.size 25 #[.slice A a.length c, .slice D l.length d]) := Lib.hid (by rw [hW1]; exact GR.Blk.new _ _ _)
  clear hW1
  have HO1 := Lib.hid (HO.out.below LW.out)
  have hw1 : w.heap.size < W1.heap.size := XA.out.lt
  go_loopw [2] (fun i w' => ∃ (k : Nat) (a' : List Dot), k ≤ a.length ∧ i = .int .i64 k ∧ Hid (a'.length = a.length) ∧ Hid (∀ d ∈ a', DotR d) ∧ Hid (OwnS w' B0 (.slice A a.length c) (.slice D l.length d) a' l) ∧ Hid (Chg (rows2 (.slice A a.length c) (.slice D l.length d)) W1 w')) (fun i _ => a.length - (intOf i).toNat)
  case atStart => exact ⟨0, a, Nat.zero_le _, rfl, Lib.hid rfl, NA, HO1, Lib.hid (Chg.refl _ _)⟩
  case round =>
    obtain ⟨k, a', hk, rfl, hla, hna, ho, hc⟩ := hrel
    have p0 : wr.cell? ⟨w.heap.size, 0, none⟩ = some (.slice A a.length c) := (HO1.out.blk XA.out hc.out).cell 0
    have p1 : wr.cell? ⟨w.heap.size, 1, none⟩ = some (.slice D l.length d) := (HO1.out.blk XA.out hc.out).cell 1
    by_cases hlt : k < a.length
    · obtain ⟨g, cap, eg, _, _⟩ := own_lit ho.out.d a.length hla.out (by omega)
      have hA : A = some ⟨g, 0, none⟩ := by injection eg
      subst hA
      clear eg
      have hcell := GR.Own.cells ho.out.d k (by rw [hla.out]; exact hlt)
      obtain ⟨c0, f0⟩ := hcell 0 _ rfl
      obtain ⟨c1, f1⟩ := hcell 1 _ rfl
      replace c0 : wr.cell? ⟨g, k * 2, none⟩ = some _ := c0
      replace c1 : wr.cell? ⟨g, k * 2 + 1, none⟩ = some _ := c1
      replace f0 : wr.frozen? ⟨g, k * 2, none⟩ = false := f0
      replace f1 : wr.frozen? ⟨g, k * 2 + 1, none⟩ = false := f1
      have hgb : g ≠ w.heap.size := fun e => GR.own_blk_ne ho.out.d (HO1.out.blk XA.out hc.out) (by decide) (by rw [← e]; rfl)
      have i0 : (0 : Int) ≤ (k : Int) := by omega
      have i1 : (k : Int) < (a.length : Int) := by omega
      have e1 : IntKind.i64.wrap (500 + (k : Int)) = 500 + (k : Int) := IntWalk.i64_in _ (by omega)
      obtain ⟨x, e2, x0, x1⟩ : ∃ x, IntKind.u32.wrap (500 + (k : Int)) = x ∧ 0 ≤ x ∧ x ≤ 4294967295 := ⟨_, rfl, by rw [IntKind.wrap_u32]; omega, by rw [IntKind.wrap_u32]; omega⟩
      clear hcell
      go_wp2
      go_roundw
      case rel => exact ⟨k + 1, _, by omega, by go_num, Lib.hid (by rw [List.length_set]; exact hla.out), Lib.hid (all_set hna.out (x := ⟨x, 9⟩) ⟨by show (0 : Int) ≤ 9; omega, x0, x1⟩),
        Lib.hid ⟨ownd_set ho.out.d k (by rw [hla.out]; exact hlt) _ 9, own_chg ho.out.s ((chg_set (S := fun i => i = g) _ _ (.inl rfl)).then (chg_set _ _ (.inl rfl))) (fun i hi e => own_ne ho.out.s ho.out.d (by decide) i hi (by rw [e]; rfl))⟩,
        Lib.hid ((hc.out.then (chg_set _ _ (.inl (.inl rfl)))).then (chg_set _ _ (.inl (.inl rfl))))⟩
      case measure => simp [intOf]; omega
    · obtain rfl : k = a.length := by omega
      go_wp2
      clear p0 p1
      go_loopw [3] (fun i w' => ∃ (k : Nat) (l' : List Sib), k ≤ l.length ∧ i = .int .i64 k ∧ Hid (l'.length = l.length) ∧ Hid (∀ x ∈ l', DotR x.d) ∧ Hid (OwnS w' B0 (.slice A a.length c) (.slice D l.length d) a' l') ∧ Hid (Chg (rows2 (.slice A a.length c) (.slice D l.length d)) W1 w')) (fun i _ => l.length - (intOf i).toNat)
      case atStart => exact ⟨0, l, Nat.zero_le _, rfl, Lib.hid rfl, NL, ho, hc⟩
      case round =>
        obtain ⟨k, l', hk, rfl, hll, hnl, ho, hc⟩ := hrel
        have p0 : wr.cell? ⟨w.heap.size, 0, none⟩ = some (.slice A a.length c) := (HO1.out.blk XA.out hc.out).cell 0
        have p1 : wr.cell? ⟨w.heap.size, 1, none⟩ = some (.slice D l.length d) := (HO1.out.blk XA.out hc.out).cell 1
        by_cases hlt : k < l.length
        · obtain ⟨g, cap, eg, _, _⟩ := own_lit ho.out.s l.length hll.out (by omega)
          have hA : D = some ⟨g, 0, none⟩ := by injection eg
          subst hA
          clear eg
          have hcell := GR.Own.cells ho.out.s k (by rw [hll.out]; exact hlt)
          obtain ⟨c0, f0⟩ := hcell 0 _ rfl
          obtain ⟨c1, f1⟩ := hcell 1 _ rfl
          obtain ⟨c2, f2⟩ := hcell 2 _ rfl
          obtain ⟨c3, f3⟩ := hcell 3 _ rfl
          replace c0 : wr.cell? ⟨g, k * 4, none⟩ = some _ := c0
          replace c1 : wr.cell? ⟨g, k * 4 + 1, none⟩ = some _ := c1
          replace c2 : wr.cell? ⟨g, k * 4 + 2, none⟩ = some _ := c2
          replace c3 : wr.cell? ⟨g, k * 4 + 3, none⟩ = some _ := c3
          replace f0 : wr.frozen? ⟨g, k * 4, none⟩ = false := f0
          replace f1 : wr.frozen? ⟨g, k * 4 + 1, none⟩ = false := f1
          replace f2 : wr.frozen? ⟨g, k * 4 + 2, none⟩ = false := f2
          replace f3 : wr.frozen? ⟨g, k * 4 + 3, none⟩ = false := f3
          have hgb : g ≠ w.heap.size := fun e => GR.own_blk_ne ho.out.s (HO1.out.blk XA.out hc.out) (by decide) (by rw [← e]; rfl)
          have i0 : (0 : Int) ≤ (k : Int) := by omega
          have i1 : (k : Int) < (l.length : Int) := by omega
          have e1 : IntKind.i64.wrap (500 + (k : Int)) = 500 + (k : Int) := IntWalk.i64_in _ (by omega)
          obtain ⟨x, e2, x0, x1⟩ : ∃ x, IntKind.u32.wrap (500 + (k : Int)) = x ∧ 0 ≤ x ∧ x ≤ 4294967295 := ⟨_, rfl, by rw [IntKind.wrap_u32]; omega, by rw [IntKind.wrap_u32]; omega⟩
          clear hcell
          go_wp2
          go_roundw
          case rel => exact ⟨k + 1, _, by omega, by go_num, Lib.hid (by rw [List.length_set]; exact hll.out), Lib.hid (all_set hnl.out (x := ⟨⟨x, 3⟩, false, _⟩) ⟨by show (0 : Int) ≤ 3; omega, x0, x1⟩),
            Lib.hid ⟨own_chg ho.out.d ((((chg_set (S := fun i => i = g) _ _ (.inl rfl)).then (chg_set _ _ (.inl rfl))).then (chg_set _ _ (.inl rfl))).then (chg_set _ _ (.inl rfl))) (fun i hi e => own_ne ho.out.d ho.out.s (by decide) i hi (by rw [e]; rfl)), owns_set ho.out.s k (by rw [hll.out]; exact hlt) _ 3 false _⟩,
            Lib.hid ((((hc.out.then (chg_set _ _ (.inl (.inr rfl)))).then (chg_set _ _ (.inl (.inr rfl)))).then (chg_set _ _ (.inl (.inr rfl)))).then (chg_set _ _ (.inl (.inr rfl))))⟩
          case measure => simp [intOf]; omega
        · obtain rfl : k = l.length := by omega
          go_wp2
          go_end0
          exact ⟨⟨_, rfl⟩, a', l', hla.out, hll.out, hna.out, hnl.out, ho.out, (chg_bl LW.out).then hc.out⟩

end Go.Proofs.Ytlmnmlehnigfdaa
