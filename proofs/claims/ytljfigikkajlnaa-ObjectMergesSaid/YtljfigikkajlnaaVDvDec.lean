/- DERIVED. dvv.Decode: the state whose bytes they are. -/
import Derived.Test.YtljfigikkajlnaaVm7
import Derived.Test.YtljfigikkajlnaaVDvTake
namespace Go.Proofs.Ytljfigikkajlnaa
open Go.RowKit Go.Lib
set_option linter.unusedVariables false
set_option linter.unusedSimpArgs false
theorem rbyte_at (g : Nat) (b : ByteArray) (s : RS) (c : UInt8) (s' : RS) (w : World) (h : Rdr w g b s) (hb : b.size ≤ 140737488355328) (hr : rdB b.data.toList s = (c, s')) :
 Calls Try.prog 95 #[.pointer (some ⟨g, 0, none⟩)] w fun e w' => e = .returned (.int .u8 c.toNat) ∧ Rdr w' g b s' ∧ w.grownBy w' (some g) := by
 have := rbyte_any g b s w h hb
 rw [hr] at this
 exact this
theorem rtext_at (g : Nat) (b : ByteArray) (most : Nat) (s : RS) (t : List UInt8) (s' : RS) (w : World) (h : Rdr w g b s) (hb : b.size ≤ 140737488355328) (hm : most ≤ 140737488355328) (hr : rdT b.data.toList most s = (t, s')) :
 Calls Try.prog 96 #[.pointer (some ⟨g, 0, none⟩), .int .i64 most] w fun e w' => e = .returned (.string ⟨t.toArray⟩) ∧ Rdr w' g b s' ∧ w.grownBy w' (some g) := by
 have := rtext_any g b most s w h hb hm
 rw [hr] at this
 exact this
theorem rend_at (g : Nat) (b : ByteArray) (s : RS) (x : Int) (w : World) (h : Rdr w g b s) (hx : endP b.data.toList s = x) :
 Calls Try.prog 97 #[.pointer (some ⟨g, 0, none⟩)] w fun e w' => e = .returned (.int .i64 x) ∧ Drawn w w' := by
 subst hx
 exact rend_any g b s w h
theorem Rdr.far {w : World} {g : Nat} {b : ByteArray} {s : RS} {p : Addr} (h : Rdr w g b s) (hp : g ≠ p.block) (u : Value) : Rdr (w.setCell p u) g b s := ⟨h.1.far hp u, h.2⟩
theorem chg_g {g : Nat} {w w' : World} (h : w.grownBy w' (some g)) : Chg (fun k => k = g) w w' := chg_grown h fun k e _ => by injection e with e; exact e.symm
/-- What stands while a state is read. -/
structure DI (w0 w : World) (R g S : Nat) (b : ByteArray) (st : RS) (v vs : Value) (a : List Dot) (l : List Sib) : Prop where
 r : GR.Blk w R 25 #[.slice none 0 0, .slice none 0 0]
 s : GR.Blk w S 25 #[v, vs]
 rd : Rdr w g b st
 d : GR.Own dotK w w0.heap.size v a
 l : GR.Own sibK w w0.heap.size vs l
 ne : R < S
 lg : w0.heap.size ≤ g
 lr : w0.heap.size ≤ R
 bl : Below w0.heap.size w0 w
theorem DI.chg {w0 w w' : World} {R g S : Nat} {b : ByteArray} {st st' : RS} {v vs : Value} {a : List Dot} {l : List Sib} (h : DI w0 w R g S b st v vs a l) (hc : Chg (fun k => k = g) w w') (hr : Rdr w' g b st') : DI w0 w' R g S b st' v vs a l :=
 ⟨blk_chg h.r hc (fun e => h.r.ne_ h.rd.1 (by decide) e), blk_chg h.s hc (fun e => h.s.ne_ h.rd.1 (by decide) e), hr,
  own_chg h.d hc (fun k hk e => by subst e; exact GR.own_blk_ne h.d h.rd.1 (by decide) hk), own_chg h.l hc (fun k hk e => by subst e; exact GR.own_blk_ne h.l h.rd.1 (by decide) hk), h.ne, h.lg, h.lr,
  h.bl.trans (hc.below h.bl.size (fun k e => by subst e; exact h.lg))⟩
theorem DI.put {w0 w w' : World} {R g S : Nat} {b : ByteArray} {st : RS} {v vs v' : Value} {a : List Dot} {l l' : List Sib} (h : DI w0 w R g S b st v vs a l) (ho : GR.Own sibK w' w0.heap.size v' l') (hg : w.grownBy w' vs.ownBlock) : DI w0 (w'.setCell ⟨S, 1, none⟩ v') R g S b st v v' a l' := by
 have r1 := h.r.grown hg (fun e => GR.own_blk_ne h.l h.r (by decide) e.symm)
 have s1 := h.s.grown hg (fun e => GR.own_blk_ne h.l h.s (by decide) e.symm)
 have d1 := h.d.grown hg (own_apart h.d h.l (by decide))
 have g1 : Rdr w' g b st := ⟨h.rd.1.grown hg (fun e => GR.own_blk_ne h.l h.rd.1 (by decide) e.symm), h.rd.2⟩
 exact ⟨r1.far (show R ≠ S from Nat.ne_of_lt h.ne) _, s1.set_ 1 _, g1.far (show g ≠ S from fun e => h.rd.1.ne_ h.s (by decide) e) _,
  own_farI d1 s1 1 _ (by decide), own_farI ho s1 1 _ (by decide), h.ne, h.lg, h.lr,
  ((Below.grown h.bl hg h.bl.size (fun k hk => (h.l.lt k hk).1)).setCell (p := ⟨S, 1, none⟩) (Nat.le_trans h.lr (Nat.le_of_lt h.ne)) v')⟩
theorem srOk_app (l m : List SR) : srOk (l ++ m) = (srOk l && srOk m) := by simp [srOk, List.all_append]
theorem srL_app (l m : List SR) : srL (l ++ m) = srL l ++ srL m := by simp [srL]
theorem rdSibs_bad (b : List UInt8) : ∀ (k : Nat) (acc : List SR) (s : RS), srOk acc = false → srOk (rdSibs b k acc s).1 = false
 | 0, _, _, h => h
 | k + 1, acc, s, h => by
  rw [rdSibs]
  exact rdSibs_bad b k _ _ (by rw [srOk_app, h]; rfl)
theorem dec_bad {b : List UInt8} {N : Nat} {s1 : RS} (h1 : takeN b = (N, s1)) (h : srOk (rdSibs b N [] s1).1 = false) : decA b = [] ∧ decL b = [] ∧ decE b = 110 := by
 have h2 : decB b = false := by
  rw [decB, takeS, h1]
  simp only
  rw [h]; rfl
 simp [decA, decL, decE, h2]
theorem dec_end {b : List UInt8} {N : Nat} {s1 st : RS} {acc : List SR} (h1 : takeN b = (N, s1)) (h : rdSibs b N [] s1 = (acc, st)) (hn : st.n ≤ b.length) (he : endP b st ≠ 0) : decA b = [] ∧ decL b = [] ∧ decE b = 110 := by
 have h2 : decB b = false := by
  rw [decB, takeS, h1]
  simp only
  rw [h, decide_eq_false (fun h3 => he (by rw [endP, if_neg (by show ¬ (st.e = 0 ∧ st.n < b.length); have := h3.2; simp only at this; omega)]; exact h3.1))]
  simp
 simp [decA, decL, decE, h2]
theorem dec_inv {b : List UInt8} {N : Nat} {s1 st : RS} {acc : List SR} (h1 : takeN b = (N, s1)) (h : rdSibs b N [] s1 = (acc, st)) (hs : staB (takeV b ⟨0, 0⟩).1 (srL acc) = false) : decA b = [] ∧ decL b = [] ∧ decE b = 110 := by
 have h2 : decB b = false := by
  rw [decB, takeS, h1]
  simp only
  rw [h, hs]
  simp
 simp [decA, decL, decE, h2]
theorem dec_yes {b : List UInt8} {N : Nat} {s1 st : RS} {acc : List SR} (h1 : takeN b = (N, s1)) (h : rdSibs b N [] s1 = (acc, st)) (hn : st.n ≤ b.length) (he : endP b st = 0) (hk : srOk acc = true) (hs : staB (takeV b ⟨0, 0⟩).1 (srL acc) = true) : decA b = (takeV b ⟨0, 0⟩).1 ∧ decL b = srL acc ∧ decE b = 0 := by
 have h3 : st.e = 0 ∧ st.n = b.length := by
  unfold endP at he
  split at he
  · exact absurd he (by decide)
  · rename_i h4
    exact ⟨he, by omega⟩
 have h5 : takeS b = (acc, st) := by
  rw [takeS, h1]; exact h
 have h2 : decB b = true := by
  rw [decB, h5]
  simp only
  rw [hs, hk, decide_eq_true h3]
  rfl
 rw [decA, decL, decE, if_pos h2, if_pos h2, if_pos h2, h5]
 exact ⟨rfl, rfl, rfl⟩
theorem gone_tests (x : UInt8) (gb : Bool) (hgb : gb = (x == 1)) : ((x.toNat : Int) == 1) = gb ∧ decide ((x.toNat : Int) = 1) = gb ∧ (x.toNat == 1) = gb := by
 have gx : (x == 1) = decide (x.toNat = 1) := by
  by_cases hy : x = 1
  · subst hy; rfl
  · rw [show decide (x.toNat = 1) = false from decide_eq_false (fun e => hy (UInt8.toNat_inj.1 e))]
    simpa using hy
 refine ⟨?_, ?_, ?_⟩
 · rw [hgb, gx]
   by_cases hy : x.toNat = 1
   · rw [hy]; rfl
   · rw [decide_eq_false hy]; simp; omega
 · rw [hgb, gx]
   by_cases hy : x.toNat = 1
   · rw [hy]; rfl
   · rw [decide_eq_false hy]; simp; omega
 · rw [hgb, gx]; rfl
theorem dvalid_at (A C : Option Addr) (n c m d B : Nat) (a : List Dot) (l : List Sib) (w : World) (ho : GR.Own dotK w B (.slice A n c) a) (hs : GR.Own sibK w B (.slice C m d) l) (ha : a.length ≤ 64) (hl : l.length ≤ 64) (na : ∀ d ∈ a, 0 ≤ d.n) (nl : ∀ x ∈ l, 0 ≤ x.d.n) :
 Calls Try.prog 73 #[.agg #[.slice A n c, .slice C m d]] w fun e w' => e = .returned (.bool (staB a l)) ∧ Below w.heap.size w w' := by
 obtain ⟨e1, _, r1⟩ := ho.rd (by show a.length * 16 ≤ _; omega)
 obtain ⟨e2, _, r2⟩ := hs.rd (by show l.length * 40 ≤ _; omega)
 subst e1 e2
 exact dvvValid_any A C c d a l w r1 r2 na nl
set_option maxRecDepth 100000 in
set_option maxHeartbeats 12800000 in
theorem decode_any (b : ByteArray) (w : World) (hb : b.size ≤ 140737488355328) :
 Calls Try.prog 44 #[.string b] w fun e w' => ∃ v1 v2, e = .returned (.tuple #[.agg #[v1, v2], .int .i64 (decE b.data.toList)]) ∧ OwnS w' w.heap.size v1 v2 (decA b.data.toList) (decL b.data.toList) ∧ Below w.heap.size w w' := by
 obtain ⟨i0, hi0, hz0, hz1, hz2⟩ := info_parts sib_info
 obtain ⟨N, s1, E1⟩ : ∃ N s1, takeN b.data.toList = (N, s1) := ⟨_, _, rfl⟩
 have E1' : rdU b.data.toList 64 (takeV b.data.toList ⟨0, 0⟩).2 = (N, s1) := E1
 have hN : N ≤ 64 := by have := rdU_le b.data.toList 64 (takeV b.data.toList ⟨0, 0⟩).2; rw [E1'] at this; exact this
 have e0 : IntKind.i64.wrap (N : Int) = (N : Int) := IntWalk.i64_in _ (by omega)
 have HE1 := Lib.hid E1
 have HE1' := Lib.hid E1'
 clear E1 E1'
 obtain ⟨a, ha⟩ : ∃ a, a = (takeV b.data.toList ⟨0, 0⟩).1 := ⟨_, rfl⟩
 have HA := Lib.hid ha
 have hal : a.length ≤ 64 := by rw [ha]; exact takeV_len _ _
 have HAI : Hid (∀ d ∈ a, DotIn d) := Lib.hid (by rw [ha]; exact takeV_in _ _)
 clear ha
 go_enter Try.func44, Try.ntmps44
 go_wp2_with fail
 obtain ⟨W1, hW1⟩ : ∃ W1 : World, W1 = w.alloc (.cells #[.slice none 0 0, .slice none 0 0] 25) := ⟨_, rfl⟩
 rw [← hW1]
 have LW : Hid (Below w.heap.size w W1) := Lib.hid (by rw [hW1]; exact (by repeat (first | exact Below.refl _ _ | refine bl_drewN ?_ _ | refine bl_drew ?_ | refine bl_alloc ?_ _)))
 have X1 : Hid (GR.Blk W1 w.heap.size 25 #[.slice none 0 0, .slice none 0 0]) := Lib.hid (by rw [hW1]; exact GR.Blk.new _ _ _)
 clear hW1
 refine (newReader_any b W1).mono ?_
 rintro e w2 ⟨rfl, h2, b2⟩
 have R2 := Lib.hid h2
 have B2 := Lib.hid (bl_then LW.out b2)
 have X2 := Lib.hid (X1.out.below b2 X1.out.lt)
 have hg0 : w.heap.size < W1.heap.size := X1.out.lt
 clear h2 b2
 go_wp2_with fail
 refine (vtake_any W1.heap.size b ⟨0, 0⟩ _ R2.out hb).mono ?_
 rintro e w3 ⟨v, rfl, o3, h3, g3⟩
 rw [← HA.out] at o3
 obtain ⟨A, n, c, rfl⟩ := own_slice o3 (by show a.length * 16 ≤ _; omega)
 have R3 := Lib.hid h3
 have O3 := Lib.hid (o3.base B2.out.size)
 have B3 := Lib.hid (B2.out.trans ((chg_g g3).below B2.out.size (fun k e => by subst e; exact LW.out.size)))
 have X3 := Lib.hid (X2.out.grown g3 (fun e => by injection e with e; omega))
 clear h3 g3 o3
 go_wp2_with fail
 obtain ⟨W4, hW4⟩ : ∃ W4 : World, W4 = w3.alloc (.cells #[.slice A n c, .slice none 0 0] 25) := ⟨_, rfl⟩
 rw [← hW4]
 have D4 : Hid (DI w W4 w.heap.size W1.heap.size w3.heap.size b (takeV b.data.toList ⟨0, 0⟩).2 (.slice A n c) (.slice none 0 0) a []) := Lib.hid (by
  have hb4 : Below w3.heap.size w3 W4 := by rw [hW4]; exact (by repeat (first | exact Below.refl _ _ | refine bl_drewN ?_ _ | refine bl_drew ?_ | refine bl_alloc ?_ _))
  exact ⟨X3.out.below hb4 X3.out.lt, by rw [hW4]; exact GR.Blk.new _ _ _, R3.out.below hb4, O3.out.below hb4, GR.Own.nil _ _ _, X3.out.lt, LW.out.size, Nat.le_refl _, bl_then B3.out hb4⟩)
 clear hW4
 refine (runint_at W1.heap.size b 64 _ N s1 _ D4.out.rd hb (by omega) HE1'.out).mono ?_
 rintro e w5 ⟨rfl, h5, g5⟩
 have D5 := Lib.hid (D4.out.chg (chg_g g5) h5)
 clear h5 g5
 go_wp2
 go_loopw [18] (fun ii w' => ∃ (k : Nat) (vs : Value) (acc : List SR) (st : RS), ii = .int .i64 k ∧ k ≤ N ∧ Hid (acc.length = k) ∧ Hid (srOk acc = true) ∧ Hid (∀ x ∈ acc, SrIn x) ∧ Hid (DI w w' w.heap.size W1.heap.size w3.heap.size b st (.slice A n c) vs a (srL acc)) ∧ Hid (rdSibs b.data.toList N [] s1 = rdSibs b.data.toList (N - k) acc st)) (fun ii _ => N - (intOf ii).toNat)
 case atStart => exact ⟨0, _, [], s1, rfl, Nat.zero_le _, Lib.hid rfl, Lib.hid rfl, Lib.hid (fun d hd => (by cases hd)), D5, Lib.hid rfl⟩
 case round =>
  obtain ⟨k, vs, acc, st, rfl, hk, hacl, hok, hin, hD, hS⟩ := hrel
  have hlen : (srL acc).length = k := by rw [srL_len]; exact hacl.out
  obtain ⟨C, m, d, rfl⟩ := own_slice hD.out.l (by show (srL acc).length * 40 ≤ _; omega)
  by_cases hlt : k < N
  · have l1 : decide ((k : Int) < (N : Int)) = true := by simp; omega
    have l2 : decide (k < N) = true := by simp; omega
    obtain ⟨p, st2, E2⟩ : ∃ p st2, rdU b.data.toList 4294967295 st = (p, st2) := ⟨_, _, rfl⟩
    obtain ⟨q, st3, E3⟩ : ∃ q st3, rdU b.data.toList 1099511627776 st2 = (q, st3) := ⟨_, _, rfl⟩
    obtain ⟨x, st4, E4⟩ : ∃ x st4, rdB b.data.toList st3 = (x, st4) := ⟨_, _, rfl⟩
    obtain ⟨t, st5, E5⟩ : ∃ t st5, rdT b.data.toList 40 st4 = (t, st5) := ⟨_, _, rfl⟩
    have hp : p ≤ 4294967295 := by have := rdU_le b.data.toList 4294967295 st; rw [E2] at this; exact this
    obtain ⟨gb, hgb⟩ : ∃ gb : Bool, gb = (x == 1) := ⟨_, rfl⟩
    have ES : rdSib b.data.toList st = (⟨⟨⟨p, q⟩, gb, ⟨t.toArray⟩⟩, x⟩, st5) := by
     simp only [rdSib, rdA, rdC, rdG, rdV, E2, E3, E4, E5, hgb]
    have HIN : Hid (SrIn ⟨⟨⟨p, q⟩, gb, ⟨t.toArray⟩⟩, x⟩) := Lib.hid (by have := rdSib_in b.data.toList st; rw [ES] at this; exact this)
    have HD2 : Hid (rdSibs b.data.toList N [] s1 = rdSibs b.data.toList (N - (k + 1)) (acc ++ [⟨⟨⟨p, q⟩, gb, ⟨t.toArray⟩⟩, x⟩]) st5) := Lib.hid (by
     rw [hS.out, show N - k = N - (k + 1) + 1 by omega, rdSibs, ES])
    have h256 := x.toNat_lt
    obtain ⟨g1, g2, g3⟩ := gone_tests x gb hgb
    have e1 : IntKind.u32.wrap (p : Int) = (p : Int) := by rw [IntKind.wrap_u32]; omega
    have HE2 := Lib.hid E2
    have HE3 := Lib.hid E3
    have HE4 := Lib.hid E4
    have HE5 := Lib.hid E5
    clear E2 E3 E4 E5 ES hgb
    go_wp2_with fail
    refine (runint_at W1.heap.size b 4294967295 st p st2 _ hD.out.rd hb (by omega) HE2.out).mono ?_
    rintro e w6 ⟨rfl, h6, q6⟩
    have D6 := Lib.hid (hD.out.chg (chg_g q6) h6)
    clear h6 q6
    go_wp2_with fail
    obtain ⟨W7, hW7⟩ : ∃ W7 : World, W7 = w6.alloc (.cells #[.int .u32 p, .int .u64 0, .bool false, .string ⟨#[]⟩] 67) := ⟨_, rfl⟩
    rw [← hW7]
    have C7 : Hid (Chg (fun k => k = W1.heap.size) w6 W7) := Lib.hid (chg_bl (by rw [hW7]; exact (by repeat (first | exact Below.refl _ _ | refine bl_drewN ?_ _ | refine bl_drew ?_ | refine bl_alloc ?_ _))))
    have X7 : Hid (GR.Blk W7 w6.heap.size 67 #[.int .u32 p, .int .u64 0, .bool false, .string ⟨#[]⟩]) := Lib.hid (by rw [hW7]; exact GR.Blk.new _ _ _)
    have R7 : Hid (Rdr W7 W1.heap.size b st2) := Lib.hid (D6.out.rd.below (by rw [hW7]; exact (by repeat (first | exact Below.refl _ _ | refine bl_drewN ?_ _ | refine bl_drew ?_ | refine bl_alloc ?_ _))))
    have hgx : W1.heap.size < w6.heap.size := D6.out.rd.1.lt
    have hgn : W1.heap.size ≠ w6.heap.size := Nat.ne_of_lt hgx
    clear hW7
    refine (runint_at W1.heap.size b 1099511627776 st2 q st3 _ R7.out hb (by omega) HE3.out).mono ?_
    rintro e w8 ⟨rfl, h8, q8⟩
    have R8 := Lib.hid h8
    have C8 := Lib.hid (C7.out.then (chg_g q8))
    have X8 := Lib.hid (X7.out.grown q8 (fun e => by injection e with e; omega))
    have y0 := X8.out.frozen 1
    have y1 : w8.cell? ⟨w6.heap.size, 1, none⟩ = some (.int .u64 0) := X8.out.cell 1
    clear h8 q8
    go_wp2_with fail
    clear y0 y1
    obtain ⟨W9, hW9⟩ : ∃ W9 : World, W9 = w8.setCell ⟨w6.heap.size, 1, none⟩ (.int .u64 q) := ⟨_, rfl⟩
    rw [← hW9]
    have R9 : Hid (Rdr W9 W1.heap.size b st3) := Lib.hid (by rw [hW9]; exact R8.out.far hgn _)
    have C9 : Hid (Chg (fun k => k = W1.heap.size) w6 W9) := Lib.hid (by rw [hW9]; exact C8.out.trans (T := fun k => k = w6.heap.size) (chg_set 1 _ (.inl rfl)) (fun i hi e => absurd hi (by omega)))
    have X9 : Hid (GR.Blk W9 w6.heap.size 67 #[.int .u32 p, .int .u64 q, .bool false, .string ⟨#[]⟩]) := Lib.hid (by rw [hW9]; exact X8.out.set_ 1 _)
    clear hW9
    refine (rbyte_at W1.heap.size b st3 x st4 _ R9.out hb HE4.out).mono ?_
    rintro e w10 ⟨rfl, h10, q10⟩
    have R10 := Lib.hid h10
    have C10 := Lib.hid (C9.out.then (chg_g q10))
    have X10 := Lib.hid (X9.out.grown q10 (fun e => by injection e with e; omega))
    have y0 := X10.out.frozen 2
    have y1 : w10.cell? ⟨w6.heap.size, 2, none⟩ = some (.bool false) := X10.out.cell 2
    clear h10 q10
    go_wp2_with fail
    clear y0 y1
    obtain ⟨W11, hW11⟩ : ∃ W11 : World, W11 = w10.setCell ⟨w6.heap.size, 2, none⟩ (.bool gb) := ⟨_, rfl⟩
    rw [← hW11]
    have R11 : Hid (Rdr W11 W1.heap.size b st4) := Lib.hid (by rw [hW11]; exact R10.out.far hgn _)
    have C11 : Hid (Chg (fun k => k = W1.heap.size) w6 W11) := Lib.hid (by rw [hW11]; exact C10.out.trans (T := fun k => k = w6.heap.size) (chg_set 2 _ (.inl rfl)) (fun i hi e => absurd hi (by omega)))
    have X11 : Hid (GR.Blk W11 w6.heap.size 67 #[.int .u32 p, .int .u64 q, .bool gb, .string ⟨#[]⟩]) := Lib.hid (by rw [hW11]; exact X10.out.set_ 2 _)
    clear hW11
    refine (rtext_at W1.heap.size b 40 st4 t st5 _ R11.out hb (by omega) HE5.out).mono ?_
    rintro e w12 ⟨rfl, h12, q12⟩
    have R12 := Lib.hid h12
    have C12 := Lib.hid (C11.out.then (chg_g q12))
    have X12 := Lib.hid (X11.out.grown q12 (fun e => by injection e with e; omega))
    have D12 := Lib.hid (D6.out.chg C12.out h12)
    have D13 : Hid (DI w (w12.setCell ⟨w6.heap.size, 3, none⟩ (.string ⟨t.toArray⟩)) w.heap.size W1.heap.size w3.heap.size b st5 (.slice A n c) (.slice C m d) a (srL acc)) := Lib.hid (D6.out.chg (C12.out.trans (T := fun k => k = w6.heap.size) (chg_set 3 _ (.inl rfl)) (fun i hi e => absurd hi (by omega))) (R12.out.far hgn _))
    have hsx : w3.heap.size ≠ w6.heap.size := Nat.ne_of_lt D6.out.s.lt
    have hrx : w.heap.size ≠ w6.heap.size := Nat.ne_of_lt D6.out.r.lt
    have y0 := X12.out.frozen 3
    have y1 : w12.cell? ⟨w6.heap.size, 0, none⟩ = some (.int .u32 p) := X12.out.cell 0
    have y2 : w12.cell? ⟨w6.heap.size, 1, none⟩ = some (.int .u64 q) := X12.out.cell 1
    have y3 : w12.cell? ⟨w6.heap.size, 2, none⟩ = some (.bool gb) := X12.out.cell 2
    have y4 : w12.cell? ⟨w6.heap.size, 3, none⟩ = some (.string ⟨#[]⟩) := X12.out.cell 3
    clear h12 q12
    by_cases hx1 : x.toNat ≤ 1
    · have l3 : decide ((1 : Int) < (x.toNat : Int)) = false := by simp; omega
      have l4 : decide (1 < x.toNat) = false := by simp; omega
      have HK : Hid (srOk (acc ++ [⟨⟨⟨p, q⟩, gb, ⟨t.toArray⟩⟩, x⟩]) = true) := Lib.hid (by rw [srOk_app, hok.out]; simp [srOk, hx1])
      have y5 : w12.cell? ⟨w3.heap.size, 1, none⟩ = some (.slice C m d) := D12.out.s.cell 1
      have y6 := D12.out.s.frozen 1
      have hl12 : w6.heap.size < w12.heap.size := X12.out.lt
      have hs12 : w3.heap.size < w12.heap.size := D12.out.s.lt
      have HLL : Hid (((srL acc).length + 1) * 40 ≤ 140737488355328) := Lib.hid (by omega)
      have HB12 : Hid (w.heap.size ≤ w12.heap.size) := Lib.hid D12.out.bl.size
      clear hx1
      go_wp2_with (at_builtin; refine GR.app_all (K := sibK) rfl (.tmp 41) (.tmp 43) _ rfl Try.underlying23 hi0 hz0 hz1 hz2 rfl w.heap.size _ (srL acc) rfl (D13.out.l.alloc _) _ 1 1 [⟨⟨p, q⟩, gb, ⟨t.toArray⟩⟩] rfl rfl (GR.rd_new (K := sibK) ⟨⟨p, q⟩, gb, ⟨t.toArray⟩⟩ (by simp [World.setCell]) (by show 40 ≤ 140737488355328; omega)) HLL.out (Nat.le_trans HB12.out (by simp [World.setCell])) ?_; intro v14 w14 ho14 hg14 hat14; obtain ⟨A14, n14, c14, rfl⟩ := own_slice ho14 (by have := HLL.out; rw [List.length_append]; exact this); have O14 := Lib.hid ho14; have G14 := Lib.hid (GR.grown_step (GR.grown_of_bl ((Below.refl _ _).alloc (Nat.le_refl _) _) _) hg14 (.inl rfl)); have D14 := Lib.hid (D13.out.put O14.out G14.out); have z0 : w14.cell? ⟨w3.heap.size, 1, none⟩ = some (.slice C m d) := (D13.out.s.grown G14.out (fun e => GR.own_blk_ne D13.out.l D13.out.s (by decide) e.symm)).cell 1; have z1 := (D13.out.s.grown G14.out (fun e => GR.own_blk_ne D13.out.l D13.out.s (by decide) e.symm)).frozen 1; clear ho14 hg14 hat14)
      go_roundw
      case rel => exact ⟨k + 1, _, _, st5, by go_num, by omega, Lib.hid (by rw [List.length_append, hacl.out]; rfl), HK, Lib.hid (fun z hz => by
       rcases List.mem_append.1 hz with hz | hz
       · exact hin.out z hz
       · rw [List.mem_singleton] at hz; subst hz; exact HIN.out), Lib.hid (by rw [srL_app]; exact D14.out), HD2⟩
      case measure => simp [intOf]; omega
    · have l3 : decide ((1 : Int) < (x.toNat : Int)) = true := by simp; omega
      have l4 : decide (1 < x.toNat) = true := by simp; omega
      have HV := Lib.hid (dec_bad HE1.out (by rw [HD2.out]; exact rdSibs_bad _ _ _ _ (by rw [srOk_app]; simp [srOk, hx1])))
      have r0 : w12.cell? ⟨w.heap.size, 0, none⟩ = some (.slice none 0 0) := D12.out.r.cell 0
      have r1 : w12.cell? ⟨w.heap.size, 1, none⟩ = some (.slice none 0 0) := D12.out.r.cell 1
      have r2 := D12.out.r.frozen 0
      have r3 := D12.out.r.frozen 1
      clear hx1
      go_wp2
      exact bodyPost_ret (v := .tuple #[.agg #[.slice none 0 0, .slice none 0 0], .int .i64 110]) (by simp [results, Try.results44, go_sem, r0, r1, r2, r3, hrx]) rfl ⟨_, _, by rw [HV.out.2.2], by rw [HV.out.1, HV.out.2.1]; exact ⟨GR.Own.nil _ _ _, GR.Own.nil _ _ _⟩, (D13.out.bl.setCell (p := ⟨w.heap.size, 0, none⟩) (Nat.le_refl _) _).setCell (p := ⟨w.heap.size, 1, none⟩) (Nat.le_refl _) _⟩
  · obtain rfl : k = N := by omega
    have HS : Hid (rdSibs b.data.toList k [] s1 = (acc, st)) := Lib.hid (by rw [hS.out, Nat.sub_self, rdSibs])
    have hnl := hD.out.rd.2
    have hrs : w.heap.size ≠ w3.heap.size := Nat.ne_of_lt hD.out.ne
    have NA : Hid (∀ d ∈ a, 0 ≤ d.n) := Lib.hid (fun d hd => (HAI.out d hd).2.2.1)
    have NL : Hid (∀ x ∈ srL acc, 0 ≤ x.d.n) := Lib.hid (fun x hx => by
     obtain ⟨y, hy, rfl⟩ := List.mem_map.1 hx
     exact (hin.out y hy).1.2.2.1)
    have hal2 : (srL acc).length ≤ 64 := by omega
    obtain ⟨z, hz⟩ : ∃ z, endP b.data.toList st = z := ⟨_, rfl⟩
    have HZ := Lib.hid hz
    by_cases h0 : z = 0
    · subst h0
      clear hz
      go_wp2_with fail
      refine (rend_at W1.heap.size b st 0 _ hD.out.rd HZ.out).mono ?_
      rintro e w6 ⟨rfl, hd6⟩
      have D6 := Lib.hid (hD.out.chg (chg_bl (hd6.below _)) (hD.out.rd.below (hd6.below _)))
      clear hd6
      have r0 : w6.cell? ⟨w.heap.size, 0, none⟩ = some (.slice none 0 0) := D6.out.r.cell 0
      have r1 : w6.cell? ⟨w.heap.size, 1, none⟩ = some (.slice none 0 0) := D6.out.r.cell 1
      have r2 := D6.out.r.frozen 0
      have r3 := D6.out.r.frozen 1
      have m0 : w6.cell? ⟨w3.heap.size, 0, none⟩ = some (.slice A n c) := D6.out.s.cell 0
      have m1 : w6.cell? ⟨w3.heap.size, 1, none⟩ = some (.slice C m d) := D6.out.s.cell 1
      go_wp2_with fail
      clear m0 m1 r0 r1 r2 r3
      refine (dvalid_at A C n c m d w.heap.size a (srL acc) _ D6.out.d D6.out.l hal hal2 NA.out NL.out).mono ?_
      rintro e w7 ⟨rfl, hb7⟩
      have D7 := Lib.hid (D6.out.chg (chg_bl hb7) (D6.out.rd.below hb7))
      clear hb7
      have r0 : w7.cell? ⟨w.heap.size, 0, none⟩ = some (.slice none 0 0) := D7.out.r.cell 0
      have r1 : w7.cell? ⟨w.heap.size, 1, none⟩ = some (.slice none 0 0) := D7.out.r.cell 1
      have r2 := D7.out.r.frozen 0
      have r3 := D7.out.r.frozen 1
      have m0 : w7.cell? ⟨w3.heap.size, 0, none⟩ = some (.slice A n c) := D7.out.s.cell 0
      have m1 : w7.cell? ⟨w3.heap.size, 1, none⟩ = some (.slice C m d) := D7.out.s.cell 1
      by_cases h1 : staB a (srL acc) = true
      · have HV := Lib.hid (dec_yes HE1.out HS.out hnl HZ.out hok.out (by rw [← HA.out]; exact h1))
        rw [h1]
        clear h1
        go_wp2
        have OF : Hid (OwnS ((w7.setCell ⟨w.heap.size, 0, none⟩ (.slice A n c)).setCell ⟨w.heap.size, 1, none⟩ (.slice C m d)) w.heap.size (.slice A n c) (.slice C m d) a (srL acc)) := Lib.hid ⟨own_farI (own_farI D7.out.d D7.out.r 0 _ (by decide)) (D7.out.r.set_ 0 _) 1 _ (by decide), own_farI (own_farI D7.out.l D7.out.r 0 _ (by decide)) (D7.out.r.set_ 0 _) 1 _ (by decide)⟩
        exact bodyPost_ret (v := .tuple #[.agg #[.slice A n c, .slice C m d], .int .i64 0]) (by simp [results, Try.results44, go_sem, r0, r1, r2, r3, hrs, m0, m1]) rfl ⟨_, _, by rw [HV.out.2.2], by rw [HV.out.1, HV.out.2.1]; rw [← HA.out]; exact OF.out, (D7.out.bl.setCell (p := ⟨w.heap.size, 0, none⟩) (Nat.le_refl _) _).setCell (p := ⟨w.heap.size, 1, none⟩) (Nat.le_refl _) _⟩
      · have h1' : staB a (srL acc) = false := by simpa using h1
        have HV := Lib.hid (dec_inv HE1.out HS.out (by rw [← HA.out]; exact h1'))
        rw [h1']
        clear h1 h1'
        go_wp2
        exact bodyPost_ret (v := .tuple #[.agg #[.slice none 0 0, .slice none 0 0], .int .i64 110]) (by simp [results, Try.results44, go_sem, r0, r1, r2, r3, hrs]) rfl ⟨_, _, by rw [HV.out.2.2], by rw [HV.out.1, HV.out.2.1]; exact ⟨GR.Own.nil _ _ _, GR.Own.nil _ _ _⟩, (D7.out.bl.setCell (p := ⟨w.heap.size, 0, none⟩) (Nat.le_refl _) _).setCell (p := ⟨w.heap.size, 1, none⟩) (Nat.le_refl _) _⟩
    · have HV := Lib.hid (dec_end HE1.out HS.out hnl (by rw [hz]; exact h0))
      have q1 : (z != 0) = true := by simpa using h0
      have q2 : (z == 0) = false := by simpa using h0
      have q3 : decide (z = 0) = false := by simpa using h0
      clear hz h0
      go_wp2_with fail
      refine (rend_at W1.heap.size b st z _ hD.out.rd HZ.out).mono ?_
      rintro e w6 ⟨rfl, hd6⟩
      have D6 := Lib.hid (hD.out.chg (chg_bl (hd6.below _)) (hD.out.rd.below (hd6.below _)))
      clear hd6
      have r0 : w6.cell? ⟨w.heap.size, 0, none⟩ = some (.slice none 0 0) := D6.out.r.cell 0
      have r1 : w6.cell? ⟨w.heap.size, 1, none⟩ = some (.slice none 0 0) := D6.out.r.cell 1
      have r2 := D6.out.r.frozen 0
      have r3 := D6.out.r.frozen 1
      have m0 : w6.cell? ⟨w3.heap.size, 0, none⟩ = some (.slice A n c) := D6.out.s.cell 0
      have m1 : w6.cell? ⟨w3.heap.size, 1, none⟩ = some (.slice C m d) := D6.out.s.cell 1
      go_wp2
      exact bodyPost_ret (v := .tuple #[.agg #[.slice none 0 0, .slice none 0 0], .int .i64 110]) (by simp [results, Try.results44, go_sem, r0, r1, r2, r3, hrs]) rfl ⟨_, _, by rw [HV.out.2.2], by rw [HV.out.1, HV.out.2.1]; exact ⟨GR.Own.nil _ _ _, GR.Own.nil _ _ _⟩, (D6.out.bl.setCell (p := ⟨w.heap.size, 0, none⟩) (Nat.le_refl _) _).setCell (p := ⟨w.heap.size, 1, none⟩) (Nat.le_refl _) _⟩
end Go.Proofs.Ytljfigikkajlnaa
