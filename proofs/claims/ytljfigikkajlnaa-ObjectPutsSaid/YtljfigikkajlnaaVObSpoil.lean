/- DERIVED. Chapter 13's own helper spoil: writes into an object's lists, and grows them. -/
import Derived.Test.YtljfigikkajlnaaVm7
import Derived.Test.YtljfigikkajlnaaVm10
import Derived.Test.YtljfigikkajlnaaVDvPlain
import Derived.Test.YtljfigikkajlnaaVm11
import Derived.Deep.QuietTactic
import Derived.BigQuiet
import Derived.Deep.RegionHeld3
import Derived.WalkLawsBesides
import Derived.WalkSpells
import Derived.Lib.Hide
import Derived.Outline
import Derived.RegionCalls
import Derived.Lib.Bytealg
import Derived.WalkMore
import Derived.Lib.Strings
import Derived.Laws.Runes
namespace Go.Proofs.Ytljfigikkajlnaa
open Go.RowKit
set_option linter.unusedVariables false
set_option linter.unusedSimpArgs false
def spD : Dot := ⟨8, 2251799813685248⟩
def spS (mark : ByteArray) : Sib := ⟨⟨0, 0⟩, false, mark⟩
set_option maxRecDepth 100000 in
set_option maxHeartbeats 6400000 in
theorem lspoil_any (B0 : Nat) (key mark : ByteArray) (u v : Value) (a : List Dot) (l : List Sib) (w : World) (ho : OwnS w B0 u v a l) (hB : B0 ≤ w.heap.size) (sa : a.length * 16 ≤ 140737488351232) (sl : l.length * 40 ≤ 140737488351232) :
    Calls Try.prog 14 #[.agg #[.string key, u, v], .string mark] w fun e w' => (∃ r, e = .returned (.int .i64 r) ∧ 40 ≤ r) ∧ Chg (rows2 u v) w w' := by
  obtain ⟨i0, hi0, hz0, hz1, hz2⟩ := info_parts dot_info
  obtain ⟨j0, hj0, jz0, jz1, jz2⟩ := info_parts sib_info
  obtain ⟨A, c, D, d, rfl, rfl, hac, hld, _, _⟩ := ho.sl (by omega) (by omega)
  have HO := Lib.hid ho
  clear ho
  go_enter Try.func14, Try.ntmps14
  go_wp2
  obtain ⟨W1, hW1⟩ : ∃ W1 : World, W1 = w.alloc (.cells #[.string key, .slice A a.length c, .slice D l.length d] 27) := ⟨_, rfl⟩
  rw [← hW1]
  have LW : Hid (Below w.heap.size w W1) := Lib.hid (by rw [hW1]; exact (by repeat (first | exact Below.refl _ _ | refine bl_drewN ?_ _ | refine bl_drew ?_ | refine bl_alloc ?_ _)))
  clear hW1
  have HO1 := Lib.hid (HO.out.below LW.out)
  go_loopw [7] (fun i w' => ∃ (k : Nat) (a' : List Dot), k ≤ a.length ∧ i = .int .i64 k ∧ Hid (a'.length = a.length) ∧ Hid (OwnS w' B0 (.slice A a.length c) (.slice D l.length d) a' l) ∧ Hid (Chg (rows2 (.slice A a.length c) (.slice D l.length d)) W1 w')) (fun i _ => a.length - (intOf i).toNat)
  case atStart => exact ⟨0, a, Nat.zero_le _, rfl, Lib.hid rfl, HO1, Lib.hid (Chg.refl _ _)⟩
  case round =>
    obtain ⟨k, a', hk, rfl, hla, ho, hc⟩ := hrel
    by_cases hlt : k < a.length
    · obtain ⟨g, cap, eg, _, _⟩ := own_lit ho.out.d a.length hla.out (by omega)
      have hA : A = some ⟨g, 0, none⟩ := by injection eg
      subst hA
      clear eg
      have hcell := GR.Own.cells ho.out.d k (by rw [hla.out]; exact hlt)
      obtain ⟨c0, f0⟩ := hcell 0 _ rfl
      obtain ⟨c1, f1⟩ := hcell 1 _ rfl
      replace c0 : wr.cell? ⟨g, k * 2, none⟩ = some _ := c0
      replace c1 : wr.cell? ⟨g, k * 2 + 1, none⟩ = some _ := c1
      replace f0 : wr.frozen? ⟨g, k * 2, none⟩ = false := f0
      replace f1 : wr.frozen? ⟨g, k * 2 + 1, none⟩ = false := f1
      have i0 : (0 : Int) ≤ (k : Int) := by omega
      have i1 : (k : Int) < (a.length : Int) := by omega
      clear hcell
      go_wp2
      go_roundw
      case rel => exact ⟨k + 1, _, by omega, by go_num, Lib.hid (by rw [List.length_set]; exact hla.out),
        Lib.hid ⟨ownd_set ho.out.d k (by rw [hla.out]; exact hlt) 8 2251799813685248, own_chg ho.out.s ((chg_set (S := fun i => i = g) _ _ (.inl rfl)).then (chg_set _ _ (.inl rfl))) (fun i hi e => own_ne ho.out.s ho.out.d (by decide) i hi (by rw [e]; rfl))⟩,
        Lib.hid ((hc.out.then (chg_set _ _ (.inl (.inl rfl)))).then (chg_set _ _ (.inl (.inl rfl))))⟩
      case measure => simp [intOf]; omega
    · obtain rfl : k = a.length := by omega
      go_wp2
      go_loopw [8] (fun i w' => ∃ (k : Nat) (l' : List Sib), k ≤ l.length ∧ i = .int .i64 k ∧ Hid (l'.length = l.length) ∧ Hid (OwnS w' B0 (.slice A a.length c) (.slice D l.length d) a' l') ∧ Hid (Chg (rows2 (.slice A a.length c) (.slice D l.length d)) W1 w')) (fun i _ => l.length - (intOf i).toNat)
      case atStart => exact ⟨0, l, Nat.zero_le _, rfl, Lib.hid rfl, ho, hc⟩
      case round =>
        obtain ⟨k, l', hk, rfl, hll, ho, hc⟩ := hrel
        by_cases hlt : k < l.length
        · obtain ⟨g, cap, eg, _, _⟩ := own_lit ho.out.s l.length hll.out (by omega)
          have hA : D = some ⟨g, 0, none⟩ := by injection eg
          subst hA
          clear eg
          have hcell := GR.Own.cells ho.out.s k (by rw [hll.out]; exact hlt)
          obtain ⟨c0, f0⟩ := hcell 0 _ rfl
          obtain ⟨c1, f1⟩ := hcell 1 _ rfl
          obtain ⟨c2, f2⟩ := hcell 2 _ rfl
          obtain ⟨c3, f3⟩ := hcell 3 _ rfl
          replace c0 : wr.cell? ⟨g, k * 4, none⟩ = some _ := c0
          replace c1 : wr.cell? ⟨g, k * 4 + 1, none⟩ = some _ := c1
          replace c2 : wr.cell? ⟨g, k * 4 + 2, none⟩ = some _ := c2
          replace c3 : wr.cell? ⟨g, k * 4 + 3, none⟩ = some _ := c3
          replace f0 : wr.frozen? ⟨g, k * 4, none⟩ = false := f0
          replace f1 : wr.frozen? ⟨g, k * 4 + 1, none⟩ = false := f1
          replace f2 : wr.frozen? ⟨g, k * 4 + 2, none⟩ = false := f2
          replace f3 : wr.frozen? ⟨g, k * 4 + 3, none⟩ = false := f3
          have i0 : (0 : Int) ≤ (k : Int) := by omega
          have i1 : (k : Int) < (l.length : Int) := by omega
          clear hcell
          go_wp2
          go_roundw
          case rel => exact ⟨k + 1, _, by omega, by go_num, Lib.hid (by rw [List.length_set]; exact hll.out),
            Lib.hid ⟨own_chg ho.out.d ((((chg_set (S := fun i => i = g) _ _ (.inl rfl)).then (chg_set _ _ (.inl rfl))).then (chg_set _ _ (.inl rfl))).then (chg_set _ _ (.inl rfl))) (fun i hi e => own_ne ho.out.d ho.out.s (by decide) i hi (by rw [e]; rfl)), owns_set ho.out.s k (by rw [hll.out]; exact hlt) 0 0 false mark⟩,
            Lib.hid ((((hc.out.then (chg_set _ _ (.inl (.inr rfl)))).then (chg_set _ _ (.inl (.inr rfl)))).then (chg_set _ _ (.inl (.inr rfl)))).then (chg_set _ _ (.inl (.inr rfl))))⟩
          case measure => simp [intOf]; omega
        · obtain rfl : k = l.length := by omega
          have HC2 := Lib.hid ((chg_bl LW.out).then hc.out)
          go_wp2
          go_loopw [5, 9] (fun x0 i w' => ∃ (x : Value) (k : Nat) (m : List Dot), x = x0 ∧ k ≤ 20 ∧ i = .int .i64 k ∧ Hid (m.length = a.length + k) ∧ Hid (OwnS w' B0 x (.slice D l.length d) m l') ∧ Hid (Chg (rows2 (.slice A a.length c) (.slice D l.length d)) w w') ∧
            Hid (∀ b, b < w.heap.size → x.ownBlock = some b → rows2 (.slice A a.length c) (.slice D l.length d) b)) (fun _ i _ => 20 - (intOf i).toNat)
          case atStart => exact ⟨_, 0, a', rfl, by omega, rfl, hla, ho, HC2, Lib.hid (fun _ _ h => .inl h)⟩
          case round =>
            obtain ⟨x, k, m, rfl, hk, rfl, hm, ho, hc, hr⟩ := hrel
            have hsz : w.heap.size ≤ wr.heap.size := hc.out.size
            have hBr : B0 ≤ wr.heap.size := Nat.le_trans hB hsz
            by_cases hlt : k < 20
            · go_wp2_with (at_builtin
                           refine GR.app_all (K := dotK) rfl (.tmp 42) (.tmp 44) _ rfl Try.underlying22 hi0 hz0 hz1 hz2 rfl B0 x m rfl (ho.out.d.alloc _) _ 1 1 [spD] rfl rfl (GR.rd_new (K := dotK) spD rfl (by show 16 ≤ 140737488355328; omega)) (by rw [hm.out]; show (a.length + k + 1) * 16 ≤ _; omega) (Nat.le_trans hBr (by simp)) ?_
                           intro v3 w3 ho3 hg3 hat3
                           have G3 : Hid (Chg (fun b => x.ownBlock = some b) wr w3) := Lib.hid ((chg_bl (by repeat (first | exact Below.refl _ _ | refine bl_drewN ?_ _ | refine bl_drew ?_ | refine bl_alloc ?_ _))).then (chg_grown hg3 (fun b hb _ => hb)))
                           have P3 := Lib.hid (own_chg ho.out.s G3.out (fun i hi h => own_ne ho.out.s ho.out.d (by decide) i hi h))
                           have HO3 := Lib.hid ho3
                           have HC3 := Lib.hid (hc.out.trans G3.out (fun i hi h => hr.out i hi h))
                           have HR3 : Hid (∀ b, b < w.heap.size → v3.ownBlock = some b → x.ownBlock = some b) := Lib.hid (fun b hb h => by
                             rcases hat3 with h1 | h1
                             · rw [← h1]; exact h
                             · rw [h1] at h; cases h; exact absurd hb (by simp; omega))
                           clear ho3 hg3 hat3)
              go_roundw
              case rel => exact ⟨_, k + 1, _, rfl, by omega, by go_num, Lib.hid (by rw [List.length_append, hm.out]; rfl), Lib.hid ⟨HO3.out, P3.out⟩, HC3, Lib.hid (fun b hb h => hr.out b hb (HR3.out b hb h))⟩
              case measure => simp [intOf]; omega
            · obtain rfl : k = 20 := by omega
              rw [show ((20 : Nat) : Int) = (20 : Int) from rfl]
              obtain ⟨A4, n4, c4, rfl⟩ := own_slice ho.out.d (by rw [hm.out]; show (a.length + 20) * 16 ≤ _; omega)
              have hn4 : n4 = a.length + 20 := by rw [own_n' ho.out.d, hm.out]
              have HN4 := Lib.hid hn4
              have HO5 := ho
              clear hn4
              go_wp2
              go_loopw [6, 10] (fun y0 i w' => ∃ (y : Value) (k : Nat) (n : List Sib), y = y0 ∧ k ≤ 20 ∧ i = .int .i64 k ∧ Hid (n.length = l.length + k) ∧ Hid (GR.Own sibK w' B0 y n) ∧ Hid (Chg (rows2 (.slice A a.length c) (.slice D l.length d)) w w') ∧
                Hid (∀ b, b < w.heap.size → y.ownBlock = some b → rows2 (.slice A a.length c) (.slice D l.length d) b)) (fun _ i _ => 20 - (intOf i).toNat)
              case atStart => exact ⟨_, 0, l', rfl, by omega, rfl, hll, Lib.hid ho.out.s, hc, Lib.hid (fun _ _ h => .inr h)⟩
              case round =>
                obtain ⟨y, k, n, rfl, hk, rfl, hn, ho, hc, hr⟩ := hrel
                have hsz : w.heap.size ≤ wr.heap.size := hc.out.size
                have hBr : B0 ≤ wr.heap.size := Nat.le_trans hB hsz
                by_cases hlt : k < 20
                · go_wp2_with (at_builtin
                               refine GR.app_all (K := sibK) rfl (.tmp 50) (.tmp 53) _ rfl Try.underlying23 hj0 jz0 jz1 jz2 rfl B0 y n rfl (ho.out.alloc _) _ 1 1 [spS mark] rfl rfl (GR.rd_new (K := sibK) (spS mark) rfl (by show 40 ≤ 140737488355328; omega)) (by rw [hn.out]; show (l.length + k + 1) * 40 ≤ _; omega) (Nat.le_trans hBr (by simp)) ?_
                               intro v4 w4 ho4 hg4 hat4
                               have G4 : Hid (Chg (fun b => y.ownBlock = some b) wr w4) := Lib.hid ((chg_bl (by repeat (first | exact Below.refl _ _ | refine bl_drewN ?_ _ | refine bl_drew ?_ | refine bl_alloc ?_ _))).then (chg_grown hg4 (fun b hb _ => hb)))
                               have HO4 := Lib.hid ho4
                               have HC4 := Lib.hid (hc.out.trans G4.out (fun i hi h => hr.out i hi h))
                               have HR4 : Hid (∀ b, b < w.heap.size → v4.ownBlock = some b → y.ownBlock = some b) := Lib.hid (fun b hb h => by
                                 rcases hat4 with h1 | h1
                                 · rw [← h1]; exact h
                                 · rw [h1] at h; cases h; exact absurd hb (by simp; omega))
                               clear ho4 hg4 hat4)
                  go_roundw
                  case rel => exact ⟨_, k + 1, _, rfl, by omega, by go_num, Lib.hid (by rw [List.length_append, hn.out]; rfl), HO4, HC4, Lib.hid (fun b hb h => hr.out b hb (HR4.out b hb h))⟩
                  case measure => simp [intOf]; omega
                · obtain rfl : k = 20 := by omega
                  obtain ⟨A5, n5, c5, rfl⟩ := own_slice ho.out (by rw [hn.out]; show (l.length + 20) * 40 ≤ _; omega)
                  have hn5 : n5 = l.length + 20 := by rw [own_n' ho.out, hn.out]
                  have hn4 := HN4.out
                  have e1 : IntKind.i64.wrap ((n4 : Int) + (n5 : Int)) = (n4 : Int) + (n5 : Int) := IntWalk.i64_in _ (by omega)
                  have HN5 := Lib.hid hn5
                  clear hn4 hn5
                  go_wp2
                  go_ret
                  exact ⟨⟨_, rfl, by have := HN4.out; have := HN5.out; omega⟩, hc.out⟩
end Go.Proofs.Ytljfigikkajlnaa
