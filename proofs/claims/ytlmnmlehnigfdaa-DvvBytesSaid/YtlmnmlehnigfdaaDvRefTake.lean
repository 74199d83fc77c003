/- DERIVED. The document's Take of a vector and of a state. -/
import Derived.Test.YtlmnmlehnigfdaaDvDec
import Derived.Test.YtlmnmlehnigfdaaRdN
namespace Go.Proofs.Ytlmnmlehnigfdaa
open Go.RowKit Go.Lib
set_option linter.unusedVariables false
set_option linter.unusedSimpArgs false

theorem duint_at (g : Nat) (b : ByteArray) (most : Nat) (s : RS) (v : Nat) (s' : RS) (w : World) (h : Rdd w g b s) (hb : b.size ≤ 140737488355328) (hm : most < 18446744073709551616) (hr : rdU b.data.toList most s = (v, s')) :
    Calls Try.prog 88 #[.pointer (some ⟨g, 0, none⟩), .int .u64 most] w fun e w' => e = .returned (.int .u64 v) ∧ Rdd w' g b s' ∧ w.grownBy w' (some g) := by
  have := duint_any g b most s w h hb hm
  rw [hr] at this
  exact this
theorem dbyte_at (g : Nat) (b : ByteArray) (s : RS) (c : UInt8) (s' : RS) (w : World) (h : Rdd w g b s) (hb : b.size ≤ 140737488355328) (hr : rdB b.data.toList s = (c, s')) :
    Calls Try.prog 89 #[.pointer (some ⟨g, 0, none⟩)] w fun e w' => e = .returned (.int .u8 c.toNat) ∧ Rdd w' g b s' ∧ w.grownBy w' (some g) := by
  have := dbyte_any g b s w h hb
  rw [hr] at this
  exact this
theorem dtext_at (g : Nat) (b : ByteArray) (most : Nat) (s : RS) (t : List UInt8) (s' : RS) (w : World) (h : Rdd w g b s) (hb : b.size ≤ 140737488355328) (hm : most ≤ 140737488355328) (hr : rdT b.data.toList most s = (t, s')) :
    Calls Try.prog 90 #[.pointer (some ⟨g, 0, none⟩), .int .i64 most] w fun e w' => e = .returned (.string ⟨t.toArray⟩) ∧ Rdd w' g b s' ∧ w.grownBy w' (some g) := by
  have := dtext_any g b most s w h hb hm
  rw [hr] at this
  exact this
theorem Rdd.far {w : World} {g : Nat} {b : ByteArray} {s : RS} {p : Addr} (h : Rdd w g b s) (hp : g ≠ p.block) (u : Value) : Rdd (w.setCell p u) g b s := ⟨h.1.far hp u, h.2⟩

set_option maxRecDepth 100000 in
set_option maxHeartbeats 6400000 in
theorem dtake_any (g : Nat) (b : ByteArray) (s : RS) (w : World) (h : Rdd w g b s) (hb : b.size ≤ 140737488355328) :
    Calls Try.prog 87 #[.pointer (some ⟨g, 0, none⟩)] w fun e w' => ∃ v, e = .returned v ∧ GR.Own dotK w' w.heap.size v (takeV b.data.toList s).1 ∧ Rdd w' g b (takeV b.data.toList s).2 ∧ w.grownBy w' (some g) := by
  obtain ⟨i0, hi0, hz0, hz1, hz2⟩ := info_parts dot_info
  obtain ⟨N, s1, E1⟩ : ∃ N s1, rdU b.data.toList 64 s = (N, s1) := ⟨_, _, rfl⟩
  have hN : N ≤ 64 := by have := rdU_le b.data.toList 64 s; rw [E1] at this; exact this
  have HE1 := Lib.hid E1
  have H := Lib.hid h
  clear h
  clear E1
  go_enter Try.func87, Try.ntmps87
  go_wp2_with fail
  refine (duint_at g b 64 s N s1 _ H.out hb (by omega) HE1.out).mono ?_
  rintro e w1 ⟨rfl, h1, g1⟩
  have H1 := Lib.hid h1
  have G1 := Lib.hid g1
  clear h1 g1
  go_wp2
  go_loopw [4, 5] (fun vl ii w' => ∃ (k : Nat) (acc : List Dot) (st : RS), ii = .int .u64 k ∧ k ≤ N ∧ Hid (acc.length = k) ∧ Hid (∀ d ∈ acc, 0 ≤ d.n) ∧ Hid (GR.Own dotK w' w.heap.size vl acc) ∧ Hid (Rdd w' g b st) ∧ Hid (rdDots b.data.toList N [] s1 = rdDots b.data.toList (N - k) acc st) ∧ Hid (w.grownBy w' (some g))) (fun _ ii _ => N - (intOf ii).toNat)
  case atStart => exact ⟨0, [], s1, rfl, Nat.zero_le _, Lib.hid rfl, Lib.hid (fun d hd => (by cases hd)), Lib.hid (GR.Own.nil _ _ _), H1, Lib.hid rfl, G1⟩
  case round =>
    obtain ⟨k, acc, st, rfl, hk, hal, hap, ho, hR, hD, hG⟩ := hrel
    have hsz := hG.out.size
    by_cases hlt : k < N
    · have l1 : decide ((k : Int) < (N : Int)) = true := by simp; omega
      have l2 : decide (k < N) = true := by simp; omega
      obtain ⟨p, st2, E2⟩ : ∃ p st2, rdU b.data.toList 4294967295 st = (p, st2) := ⟨_, _, rfl⟩
      obtain ⟨q, st3, E3⟩ : ∃ q st3, rdU b.data.toList 1099511627776 st2 = (q, st3) := ⟨_, _, rfl⟩
      have hp : p ≤ 4294967295 := by have := rdU_le b.data.toList 4294967295 st; rw [E2] at this; exact this
      have hq : q ≤ 1099511627776 := by have := rdU_le b.data.toList 1099511627776 st2; rw [E3] at this; exact this
      have HD2 : Hid (rdDots b.data.toList N [] s1 = rdDots b.data.toList (N - (k + 1)) (acc ++ [⟨p, q⟩]) st3) := Lib.hid (by
        rw [hD.out, show N - k = N - (k + 1) + 1 by omega, rdDots, E2]
        simp only
        rw [E3])
      have e1 : IntKind.u32.wrap (p : Int) = (p : Int) := by rw [IntKind.wrap_u32]; omega
      have e2 : IntKind.u64.wrap ((k : Int) + 1) = (k : Int) + 1 := IntWalk.u64_in _ (by omega)
      have HE2 := Lib.hid E2
      have HE3 := Lib.hid E3
      clear E2 E3
      go_wp2_with fail
      refine (duint_at g b 4294967295 st p st2 _ hR.out hb (by omega) HE2.out).mono ?_
      rintro e w2 ⟨rfl, h2, g2⟩
      have R2 := Lib.hid h2
      have O2 := Lib.hid (own_g ho.out hR.out.1 (by decide) g2)
      have G2 := Lib.hid (grown_trans hG.out g2)
      clear h2 g2
      go_wp2_with fail
      refine (duint_at g b 1099511627776 st2 q st3 _ R2.out hb (by omega) HE3.out).mono ?_
      rintro e w3 ⟨rfl, h3, g3⟩
      have R3 := Lib.hid h3
      have O3 := Lib.hid (own_g O2.out R2.out.1 (by decide) g3)
      have G3 := Lib.hid (grown_trans G2.out g3)
      clear h3 g3
      have hs3 : w.heap.size ≤ w3.heap.size := G3.out.size
      have HLL : Hid ((acc.length + 1) * 16 ≤ 140737488355328) := Lib.hid (by have := hal.out; omega)
      go_wp2_with (at_builtin; refine GR.app_one (K := dotK) rfl (.tmp 19) (.tmp 24) _ rfl Try.underlying22 hi0 hz0 hz1 hz2 rfl w.heap.size _ acc ⟨p, q⟩ rfl O3.out rfl HLL.out hs3 ?_; intro v4 w4 ho4 hg4 hat4; have O4 := Lib.hid ho4; have R4 := Lib.hid (show Rdd w4 g b st3 from ⟨R3.out.1.grown hg4 (fun e => GR.own_blk_ne O3.out R3.out.1 (by decide) e.symm), R3.out.2⟩); have G4 := Lib.hid (GR.grown_step G3.out hg4 (.inr (fun b hb => (O3.out.lt b hb).1))); clear ho4 hg4 hat4)
      go_roundw
      case rel => exact ⟨k + 1, _, st3, by go_num, by omega, Lib.hid (by rw [List.length_append, hal.out]; rfl), Lib.hid (fun d hd => by
        rcases List.mem_append.1 hd with hd | hd
        · exact hap.out d hd
        · rw [List.mem_singleton] at hd; subst hd; show (0 : Int) ≤ (q : Int); omega), O4, R4, HD2, G4⟩
      case measure => simp [intOf]; omega
    · obtain rfl : k = N := by omega
      have HD3 : Hid (rdDots b.data.toList k [] s1 = (acc, st)) := Lib.hid (by rw [hD.out, Nat.sub_self, rdDots])
      by_cases h0 : st.e = 0
      · obtain ⟨A, n, c, rfl⟩ := own_slice ho.out (by have := hal.out; show acc.length * 16 ≤ _; omega)
        obtain ⟨e8, _, r8⟩ := ho.out.rd (by have := hal.out; show acc.length * 16 ≤ _; omega)
        have HR8 := Lib.hid r8
        have HH0 := Lib.hid h0
        have HV2 : Hid (Calls Try.prog 37 #[.slice A n c] wr fun e w' => e = .returned (.bool (vecB acc)) ∧ Below wr.heap.size wr w') := Lib.hid (by rw [e8]; exact (refVec_any A c acc _ HR8.out hap.out).mono fun _ _ ⟨h, hd⟩ => ⟨h, hd.below _⟩)
        have y0 : wr.cell? ⟨g, 2, none⟩ = some (.int .i64 0) := by rw [← h0]; exact hR.out.1.cell 2
        clear r8 e8 h0
        go_wp2_with fail
        clear y0
        refine (HV2.out).mono ?_
        rintro e w5 ⟨rfl, h5⟩
        have R5 := Lib.hid (hR.out.below h5)
        have O5 := Lib.hid (ho.out.below h5)
        have G5 := Lib.hid (grown_trans hG.out (GR.grown_of_bl h5 (some g)))
        clear h5
        by_cases hv : vecB acc = true
        · have HT : Hid (takeV b.data.toList s = (acc, st)) := Lib.hid (takeV_yes HE1.out HD3.out HH0.out hv)
          have y1 : w5.cell? ⟨g, 2, none⟩ = some (.int .i64 0) := by rw [← HH0.out]; exact R5.out.1.cell 2
          rw [hv]
          clear hv
          go_wp2
          go_ret
          rw [HT.out]
          exact ⟨_, rfl, O5.out, R5.out, G5.out⟩
        · have hv' : vecB acc = false := by simpa using hv
          have HT : Hid (takeV b.data.toList s = ([], ⟨st.n, 100⟩)) := Lib.hid (takeV_not HE1.out HD3.out HH0.out hv')
          rw [hv']
          clear hv hv'
          go_wp2_with fail
          refine (dFail_any g b st 100 _ R5.out).mono ?_
          rintro e w6 ⟨rfl, h6, g6⟩
          rw [show failS st 100 = ⟨st.n, 100⟩ by rw [failS, if_pos HH0.out]] at h6
          have R6 := Lib.hid h6
          have G6 := Lib.hid (grown_trans G5.out g6)
          have y1 : w6.cell? ⟨g, 2, none⟩ = some (.int .i64 100) := h6.1.cell 2
          clear h6 g6
          go_wp2
          go_ret
          rw [HT.out]
          exact ⟨_, rfl, GR.Own.nil _ _ _, R6.out, G6.out⟩
      · have HT : Hid (takeV b.data.toList s = ([], st)) := Lib.hid (takeV_bad HE1.out (by rw [HD3.out]) h0)
        obtain ⟨z, hz⟩ : ∃ z, z = st.e := ⟨_, rfl⟩
        rw [← hz] at h0
        have q1 : (z != 0) = true := by simpa using h0
        have q2 : (z == 0) = false := by simpa using h0
        have q3 : decide (z = 0) = false := by simpa using h0
        have y0 : wr.cell? ⟨g, 2, none⟩ = some (.int .i64 z) := by rw [hz]; exact hR.out.1.cell 2
        clear h0 hz
        go_wp2
        go_ret
        rw [HT.out]
        exact ⟨_, rfl, GR.Own.nil _ _ _, hR.out, hG.out⟩

/-- What stands while the document takes a state. -/
structure DJ (w0 w : World) (R g S : Nat) (b : ByteArray) (st : RS) (v vs : Value) (a : List Dot) (l : List Sib) : Prop where
  r : GR.Blk w R 25 #[.slice none 0 0, .slice none 0 0]
  s : GR.Blk w S 25 #[v, vs]
  rd : Rdd w g b st
  d : GR.Own dotK w w0.heap.size v a
  l : GR.Own sibK w w0.heap.size vs l
  ne : R < S
  lr : w0.heap.size ≤ R
  gb : w0.grownBy w (some g)
theorem DJ.chg {w0 w w' : World} {R g S : Nat} {b : ByteArray} {st st' : RS} {v vs : Value} {a : List Dot} {l : List Sib} (h : DJ w0 w R g S b st v vs a l) (hc : w.grownBy w' (some g)) (hr : Rdd w' g b st') : DJ w0 w' R g S b st' v vs a l :=
  ⟨h.r.grown hc (fun e => h.r.ne_ h.rd.1 (by decide) (by injection e)), h.s.grown hc (fun e => h.s.ne_ h.rd.1 (by decide) (by injection e)), hr,
   own_g h.d h.rd.1 (by decide) hc, own_g h.l h.rd.1 (by decide) hc, h.ne, h.lr, grown_trans h.gb hc⟩
theorem DJ.put {w0 w w' : World} {R g S : Nat} {b : ByteArray} {st : RS} {v vs v' : Value} {a : List Dot} {l l' : List Sib} (h : DJ w0 w R g S b st v vs a l) (ho : GR.Own sibK w' w0.heap.size v' l') (hg : w.grownBy w' vs.ownBlock) : DJ w0 (w'.setCell ⟨S, 1, none⟩ v') R g S b st v v' a l' := by
  have r1 := h.r.grown hg (fun e => GR.own_blk_ne h.l h.r (by decide) e.symm)
  have s1 := h.s.grown hg (fun e => GR.own_blk_ne h.l h.s (by decide) e.symm)
  have d1 := h.d.grown hg (own_apart h.d h.l (by decide))
  have g1 : Rdd w' g b st := ⟨h.rd.1.grown hg (fun e => GR.own_blk_ne h.l h.rd.1 (by decide) e.symm), h.rd.2⟩
  exact ⟨r1.far (show R ≠ S from Nat.ne_of_lt h.ne) _, s1.set_ 1 _, g1.far (show g ≠ S from fun e => h.rd.1.ne_ h.s (by decide) e) _,
    own_farI d1 s1 1 _ (by decide), own_farI ho s1 1 _ (by decide), h.ne, h.lr,
    GR.grown_step (GR.grown_step h.gb hg (.inr (fun k hk => (h.l.lt k hk).1))) (grown_set (g := S) 1 v') (.inr (fun k e => by injection e with e; subst e; exact Nat.le_trans h.lr (Nat.le_of_lt h.ne)))⟩

set_option maxRecDepth 100000 in
set_option maxHeartbeats 12800000 in
theorem stake_any (g : Nat) (b : ByteArray) (w : World) (h : Rdd w g b ⟨0, 0⟩) (hb : b.size ≤ 140737488355328) :
    Calls Try.prog 63 #[.pointer (some ⟨g, 0, none⟩)] w fun e w' => ∃ v1 v2, e = .returned (.agg #[v1, v2]) ∧ OwnS w' w.heap.size v1 v2 (takeV b.data.toList ⟨0, 0⟩).1 (srL (takeS b.data.toList).1) ∧ Rdd w' g b (takeS b.data.toList).2 ∧ w.grownBy w' (some g) := by
  obtain ⟨i0, hi0, hz0, hz1, hz2⟩ := info_parts sib_info
  obtain ⟨N, s1, E1⟩ : ∃ N s1, takeN b.data.toList = (N, s1) := ⟨_, _, rfl⟩
  have E1' : rdU b.data.toList 64 (takeV b.data.toList ⟨0, 0⟩).2 = (N, s1) := E1
  have hN : N ≤ 64 := by have := rdU_le b.data.toList 64 (takeV b.data.toList ⟨0, 0⟩).2; rw [E1'] at this; exact this
  have HE1' := Lib.hid E1'
  have HTS : Hid (takeS b.data.toList = rdSibs b.data.toList N [] s1) := Lib.hid (by rw [takeS, E1])
  clear E1 E1'
  obtain ⟨a, ha⟩ : ∃ a, a = (takeV b.data.toList ⟨0, 0⟩).1 := ⟨_, rfl⟩
  have hal : a.length ≤ 64 := by rw [ha]; exact takeV_len _ _
  have HA := Lib.hid ha
  have H := Lib.hid h
  have hg : g < w.heap.size := h.1.lt
  clear ha h
  rw [← HA.out]
  go_enter Try.func63, Try.ntmps63
  go_wp2_with fail
  obtain ⟨W1, hW1⟩ : ∃ W1 : World, W1 = w.alloc (.cells #[.slice none 0 0, .slice none 0 0] 25) := ⟨_, rfl⟩
  rw [← hW1]
  have G1 : Hid (w.grownBy W1 (some g)) := Lib.hid (GR.grown_of_bl (by rw [hW1]; exact (by repeat (first | exact Below.refl _ _ | refine bl_drewN ?_ _ | refine bl_drew ?_ | refine bl_alloc ?_ _))) _)
  have X1 : Hid (GR.Blk W1 w.heap.size 25 #[.slice none 0 0, .slice none 0 0]) := Lib.hid (by rw [hW1]; exact GR.Blk.new _ _ _)
  have R1 : Hid (Rdd W1 g b ⟨0, 0⟩) := Lib.hid (H.out.below (by rw [hW1]; exact (by repeat (first | exact Below.refl _ _ | refine bl_drewN ?_ _ | refine bl_drew ?_ | refine bl_alloc ?_ _))))
  clear hW1
  refine (dtake_any g b ⟨0, 0⟩ _ R1.out hb).mono ?_
  rintro e w3 ⟨v, rfl, o3, h3, g3⟩
  rw [← HA.out] at o3
  obtain ⟨A, n, c, rfl⟩ := own_slice o3 (by show a.length * 16 ≤ _; omega)
  have R3 := Lib.hid h3
  have O3 := Lib.hid (o3.base G1.out.size)
  have G3 := Lib.hid (grown_trans G1.out g3)
  have X3 := Lib.hid (X1.out.grown g3 (fun e => X1.out.ne_ R1.out.1 (by decide) (by injection e)))
  clear h3 g3 o3
  go_wp2_with fail
  obtain ⟨W4, hW4⟩ : ∃ W4 : World, W4 = w3.alloc (.cells #[.slice A n c, .slice none 0 0] 25) := ⟨_, rfl⟩
  rw [← hW4]
  have D4 : Hid (DJ w W4 w.heap.size g w3.heap.size b (takeV b.data.toList ⟨0, 0⟩).2 (.slice A n c) (.slice none 0 0) a []) := Lib.hid (by
    have hb4 : Below w3.heap.size w3 W4 := by rw [hW4]; exact (by repeat (first | exact Below.refl _ _ | refine bl_drewN ?_ _ | refine bl_drew ?_ | refine bl_alloc ?_ _))
    exact ⟨X3.out.below hb4 X3.out.lt, by rw [hW4]; exact GR.Blk.new _ _ _, R3.out.below hb4, O3.out.below hb4, GR.Own.nil _ _ _, X3.out.lt, Nat.le_refl _, grown_trans G3.out (GR.grown_of_bl hb4 _)⟩)
  clear hW4
  refine (duint_at g b 64 _ N s1 _ D4.out.rd hb (by omega) HE1'.out).mono ?_
  rintro e w5 ⟨rfl, h5, g5⟩
  have D5 := Lib.hid (D4.out.chg g5 h5)
  clear h5 g5
  go_wp2
  go_loopw [5] (fun ii w' => ∃ (k : Nat) (vs : Value) (acc : List SR) (st : RS), ii = .int .u64 k ∧ k ≤ N ∧ Hid (acc.length = k) ∧ Hid (DJ w w' w.heap.size g w3.heap.size b st (.slice A n c) vs a (srL acc)) ∧ Hid (rdSibs b.data.toList N [] s1 = rdSibs b.data.toList (N - k) acc st)) (fun ii _ => N - (intOf ii).toNat)
  case atStart => exact ⟨0, _, [], s1, rfl, Nat.zero_le _, Lib.hid rfl, D5, Lib.hid rfl⟩
  case round =>
    obtain ⟨k, vs, acc, st, rfl, hk, hacl, hD, hS⟩ := hrel
    have hlen : (srL acc).length = k := by rw [srL_len]; exact hacl.out
    obtain ⟨C, m, d, rfl⟩ := own_slice hD.out.l (by show (srL acc).length * 40 ≤ _; omega)
    by_cases hlt : k < N
    · have l1 : decide ((k : Int) < (N : Int)) = true := by simp; omega
      have l2 : decide (k < N) = true := by simp; omega
      obtain ⟨p, st2, E2⟩ : ∃ p st2, rdU b.data.toList 4294967295 st = (p, st2) := ⟨_, _, rfl⟩
      obtain ⟨q, st3, E3⟩ : ∃ q st3, rdU b.data.toList 1099511627776 st2 = (q, st3) := ⟨_, _, rfl⟩
      obtain ⟨x, st4, E4⟩ : ∃ x st4, rdB b.data.toList st3 = (x, st4) := ⟨_, _, rfl⟩
      obtain ⟨t, st5, E5⟩ : ∃ t st5, rdT b.data.toList 40 st4 = (t, st5) := ⟨_, _, rfl⟩
      have hp : p ≤ 4294967295 := by have := rdU_le b.data.toList 4294967295 st; rw [E2] at this; exact this
      obtain ⟨gb, hgb⟩ : ∃ gb : Bool, gb = (x == 1) := ⟨_, rfl⟩
      have ES : rdSib b.data.toList st = (⟨⟨⟨p, q⟩, gb, ⟨t.toArray⟩⟩, x⟩, st5) := by
        simp only [rdSib, rdA, rdC, rdG, rdV, E2, E3, E4, E5, hgb]
      have HD2 : Hid (rdSibs b.data.toList N [] s1 = rdSibs b.data.toList (N - (k + 1)) (acc ++ [⟨⟨⟨p, q⟩, gb, ⟨t.toArray⟩⟩, x⟩]) st5) := Lib.hid (by
        rw [hS.out, show N - k = N - (k + 1) + 1 by omega, rdSibs, ES])
      have h256 := x.toNat_lt
      obtain ⟨g1, g2, g3⟩ := gone_tests x gb hgb
      have e1 : IntKind.u32.wrap (p : Int) = (p : Int) := by rw [IntKind.wrap_u32]; omega
      have e2 : IntKind.u64.wrap ((k : Int) + 1) = (k : Int) + 1 := IntWalk.u64_in _ (by omega)
      have HE2 := Lib.hid E2
      have HE3 := Lib.hid E3
      have HE4 := Lib.hid E4
      have HE5 := Lib.hid E5
      clear E2 E3 E4 E5 ES hgb
      go_wp2_with fail
      refine (duint_at g b 4294967295 st p st2 _ hD.out.rd hb (by omega) HE2.out).mono ?_
      rintro e w6 ⟨rfl, h6, q6⟩
      have D6 := Lib.hid (hD.out.chg q6 h6)
      clear h6 q6
      go_wp2_with fail
      refine (duint_at g b 1099511627776 st2 q st3 _ D6.out.rd hb (by omega) HE3.out).mono ?_
      rintro e w7 ⟨rfl, h7, q7⟩
      have D7 := Lib.hid (D6.out.chg q7 h7)
      clear h7 q7
      go_wp2_with fail
      refine (dbyte_at g b st3 x st4 _ D7.out.rd hb HE4.out).mono ?_
      rintro e w8 ⟨rfl, h8, q8⟩
      have D8 := Lib.hid (D7.out.chg q8 h8)
      clear h8 q8
      go_wp2_with fail
      refine (dtext_at g b 40 st4 t st5 _ D8.out.rd hb (by omega) HE5.out).mono ?_
      rintro e w9 ⟨rfl, h9, q9⟩
      have D9 := Lib.hid (D8.out.chg q9 h9)
      clear h9 q9
      have y5 : w9.cell? ⟨w3.heap.size, 1, none⟩ = some (.slice C m d) := D9.out.s.cell 1
      have y6 := D9.out.s.frozen 1
      have hs9 : w3.heap.size < w9.heap.size := D9.out.s.lt
      have HLL : Hid (((srL acc).length + 1) * 40 ≤ 140737488355328) := Lib.hid (by omega)
      have HB9 : w.heap.size ≤ w9.heap.size := D9.out.gb.size
      go_wp2_with (at_builtin; refine GR.app_one (K := sibK) rfl (.tmp 29) (.tmp 38) _ rfl Try.underlying23 hi0 hz0 hz1 hz2 rfl w.heap.size _ (srL acc) ⟨⟨p, q⟩, gb, ⟨t.toArray⟩⟩ rfl D9.out.l rfl HLL.out HB9 ?_; intro v14 w14 ho14 hg14 hat14; obtain ⟨A14, n14, c14, rfl⟩ := own_slice ho14 (by have := HLL.out; rw [List.length_append]; exact this); have D14 := Lib.hid (D9.out.put ho14 hg14); have z0 : w14.cell? ⟨w3.heap.size, 1, none⟩ = some (.slice C m d) := (D9.out.s.grown hg14 (fun e => GR.own_blk_ne D9.out.l D9.out.s (by decide) e.symm)).cell 1; have z1 := (D9.out.s.grown hg14 (fun e => GR.own_blk_ne D9.out.l D9.out.s (by decide) e.symm)).frozen 1; clear ho14 hg14 hat14)
      go_roundw
      case rel => exact ⟨k + 1, _, _, st5, by go_num, by omega, Lib.hid (by rw [List.length_append, hacl.out]; rfl), Lib.hid (by rw [srL_app]; exact D14.out), HD2⟩
      case measure => simp [intOf]; omega
    · obtain rfl : k = N := by omega
      have HS : Hid (takeS b.data.toList = (acc, st)) := Lib.hid (by rw [HTS.out, hS.out, Nat.sub_self, rdSibs])
      have hrs : w.heap.size ≠ w3.heap.size := Nat.ne_of_lt hD.out.ne
      have r0 : wr.cell? ⟨w.heap.size, 0, none⟩ = some (.slice none 0 0) := hD.out.r.cell 0
      have r1 : wr.cell? ⟨w.heap.size, 1, none⟩ = some (.slice none 0 0) := hD.out.r.cell 1
      have r2 := hD.out.r.frozen 0
      have r3 := hD.out.r.frozen 1
      have m0 : wr.cell? ⟨w3.heap.size, 0, none⟩ = some (.slice A n c) := hD.out.s.cell 0
      have m1 : wr.cell? ⟨w3.heap.size, 1, none⟩ = some (.slice C m d) := hD.out.s.cell 1
      have OF : Hid (OwnS ((wr.setCell ⟨w.heap.size, 0, none⟩ (.slice A n c)).setCell ⟨w.heap.size, 1, none⟩ (.slice C m d)) w.heap.size (.slice A n c) (.slice C m d) a (srL acc)) := Lib.hid ⟨own_farI (own_farI hD.out.d hD.out.r 0 _ (by decide)) (hD.out.r.set_ 0 _) 1 _ (by decide), own_farI (own_farI hD.out.l hD.out.r 0 _ (by decide)) (hD.out.r.set_ 0 _) 1 _ (by decide)⟩
      have hgr : g ≠ w.heap.size := Nat.ne_of_lt hg
      have GF : Hid (w.grownBy ((wr.setCell ⟨w.heap.size, 0, none⟩ (.slice A n c)).setCell ⟨w.heap.size, 1, none⟩ (.slice C m d)) (some g)) := Lib.hid (GR.grown_step (GR.grown_step hD.out.gb (grown_set (g := w.heap.size) 0 _) (.inr (fun k e => by injection e with e; subst e; exact Nat.le_refl _))) (grown_set (g := w.heap.size) 1 _) (.inr (fun k e => by injection e with e; subst e; exact Nat.le_refl _)))
      go_wp2
      exact bodyPost_ret (v := .agg #[.slice A n c, .slice C m d]) (by simp [results, Try.results63, go_sem, r0, r1, r2, r3, hrs, m0, m1]) rfl ⟨_, _, rfl, by rw [HS.out]; exact OF.out, by rw [HS.out]; exact (hD.out.rd.far hgr _).far hgr _, GF.out⟩
end Go.Proofs.Ytlmnmlehnigfdaa
