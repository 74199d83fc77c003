/- DERIVED. ObjectPuts: the walk of the law. -/
import Derived.Test.YtljfigikkajlnaaVm13
import Derived.Test.YtljfigikkajlnaaVObFar
import Derived.Test.YtljfigikkajlnaaVm12
namespace Go.Proofs.Ytljfigikkajlnaa
open Go.RowKit Go.Lib Go.Proofs.YtljfigikkajlnaaW.PrintWords
set_option linter.unusedVariables false
set_option linter.unusedSimpArgs false
attribute [local go_sem high] eqD eqCell
theorem StepIn.below {w w' : World} {s : StepV} (h : StepIn w s) (hb : Below w.heap.size w w') : StepIn w' s :=
  ⟨⟨h.1.1.below hb, h.1.2⟩, h.2.1, h.2.2.1.below hb, h.2.2.2.1.below hb, h.2.2.2.2⟩
theorem owns_at {w w' : World} {B b e g : Nat} {u v : Value} {p : List Dot} {q : List Sib} (h : OwnS w B u v p q) (r : ∀ k, rows2 u v k → b ≤ k ∧ k < e) (hc : Chg (fun k => k = g) w w') (hd : g < b ∨ e ≤ g) : OwnS w' B u v p q :=
  ⟨own_chg h.d hc (fun k hk he => by have := r k (.inl hk); omega), own_chg h.s hc (fun k hk he => by have := r k (.inr hk); omega)⟩
theorem cap_take {α : Type} {a r : List α} {c : Nat} (h : (a ++ r).length ≤ c) : a.length ≤ c := by rw [List.length_append] at h; omega
theorem ownL {α : Type} {K : GR.Kind α} {w : World} {B n m c : Nat} {A : Option Addr} {l : List α} (h : GR.Own K w B (.slice A n c) l) (e : n = m) : GR.Own K w B (.slice A m c) l := e ▸ h
set_option maxRecDepth 100000 in
set_option maxHeartbeats 51200000 in
theorem puts_walk (ko0 : ByteArray) (A0 B0 SA : Option Addr) (c0 d0 sc : Nat) (a0 : List Dot) (l0 : List Sib) (L : List StepV) (w : World) (hoi : OIn w A0 B0 c0 d0 a0 l0) (hsc : GR.Rd stepK w SA L) (hall : ∀ s ∈ L, StepIn w s) :
    Calls Try.prog 3 #[.agg #[.string ko0, .slice A0 a0.length c0, .slice B0 l0.length d0], .slice SA L.length sc] w fun e w' => e = .returned (.bool true) ∧ Below w.heap.size w w' := by
  have hLL : L.length * 128 ≤ 140737488355328 := hsc.max
  have HSC := Lib.hid hsc
  have HALL := Lib.hid hall
  have HOI0 := Lib.hid hoi
  clear hsc hall hoi
  go_enter Try.func3, Try.ntmps3
  go_wp2
  obtain ⟨W1, hW1⟩ : ∃ W1 : World, W1 = w.alloc (.cells #[.string ko0, .slice A0 a0.length c0, .slice B0 l0.length d0] 27) := ⟨_, rfl⟩
  rw [← hW1]
  have LW : Hid (Below w.heap.size w W1) := Lib.hid (by rw [hW1]; exact (by repeat (first | exact Below.refl _ _ | refine bl_drewN ?_ _ | refine bl_drew ?_ | refine bl_alloc ?_ _)))
  have XO : Hid (GR.Blk W1 w.heap.size 27 #[.string ko0, .slice A0 a0.length c0, .slice B0 l0.length d0]) := Lib.hid (by rw [hW1]; exact GR.Blk.new _ _ _)
  clear hW1
  go_loopw [5] (fun i w' => ∃ (k : Nat) (ko : ByteArray) (A B : Option Addr) (c d : Nat) (a : List Dot) (l : List Sib), k ≤ L.length ∧ i = .int .i64 k ∧ Hid (GR.Blk w' w.heap.size 27 #[.string ko, .slice A a.length c, .slice B l.length d]) ∧ Hid (OIn w' A B c d a l) ∧ Hid (Below w.heap.size w w')) (fun i _ => L.length - (intOf i).toNat)
  case atStart => exact ⟨0, ko0, A0, B0, c0, d0, a0, l0, Nat.zero_le _, rfl, XO, Lib.hid (HOI0.out.below LW.out), LW⟩
  case round =>
    obtain ⟨k, ko, A, B, c, d, a, l, hk, rfl, HPO, HOI, HW⟩ := hrel
    obtain ⟨v0, hv0⟩ : ∃ x : World, x = wr := ⟨_, rfl⟩
    subst hv0
    have i0 : (0 : Int) ≤ (k : Int) := by omega
    by_cases hlt : k < L.length
    · have i1 : (k : Int) < (L.length : Int) := by omega
      have i2 : decide ((k : Int) < (L.length : Int)) = true := decide_eq_true i1
      obtain ⟨ad, rfl, _, s0, s1, s2, s3, s4, s5, s6, s7⟩ := step_at (HSC.out.below HW.out) k hlt
      have hst0 := HALL.out L[k] (List.getElem_mem hlt)
      generalize hgl : L[k] = st at s0 s1 s2 s3 s4 s5 s6 s7 hst0
      clear hgl
      obtain ⟨m, E, x, xc, act, val, gone, key, A2, a2, ac, B2, l2, lc⟩ := st
      have HST : Hid (StepIn v0 ⟨m, E, x, xc, act, val, gone, key, A2, a2, ac, B2, l2, lc⟩) := Lib.hid (hst0.below HW.out)
      clear hst0
      replace s0 : v0.cell? (ad.add (k * 8)) = some (.bool m) := s0
      replace s1 : v0.cell? ⟨(ad.add (k * 8)).block, (ad.add (k * 8)).off + 1, none⟩ = some (.slice E x.length xc) := s1
      replace s2 : v0.cell? ⟨(ad.add (k * 8)).block, (ad.add (k * 8)).off + 2, none⟩ = some (.int .u32 act) := s2
      replace s3 : v0.cell? ⟨(ad.add (k * 8)).block, (ad.add (k * 8)).off + 3, none⟩ = some (.string val) := s3
      replace s4 : v0.cell? ⟨(ad.add (k * 8)).block, (ad.add (k * 8)).off + 4, none⟩ = some (.bool gone) := s4
      replace s5 : v0.cell? ⟨(ad.add (k * 8)).block, (ad.add (k * 8)).off + 5, none⟩ = some (.string key) := s5
      replace s6 : v0.cell? ⟨(ad.add (k * 8)).block, (ad.add (k * 8)).off + 6, none⟩ = some (.slice A2 a2.length ac) := s6
      replace s7 : v0.cell? ⟨(ad.add (k * 8)).block, (ad.add (k * 8)).off + 7, none⟩ = some (.slice B2 l2.length lc) := s7
      have po_0 : v0.cell? ⟨w.heap.size, 0, none⟩ = some (.string ko) := HPO.out.cell 0
      have po_1 : v0.cell? ⟨w.heap.size, 1, none⟩ = some (.slice A a.length c) := HPO.out.cell 1
      have po_2 : v0.cell? ⟨w.heap.size, 2, none⟩ = some (.slice B l.length d) := HPO.out.cell 2
      have po_lt : w.heap.size < v0.heap.size := HPO.out.lt
      have sa := HOI.out.sa
      have sl := HOI.out.sl
      have sx : x.length * 16 ≤ 140737488351232 := HST.out.1.2.2.1
      have sa2 : a2.length * 16 ≤ 140737488351232 := HST.out.2.2.2.2.2.2.1
      have sl2 : l2.length * 40 ≤ 140737488351232 := HST.out.2.2.2.2.2.2.2.1
      have HR2 : Hid (StR a2 l2) := Lib.hid (str_of HST.out.2.2.2.2.2.2.2.2.1 (sibr_dot HST.out.2.2.2.2.2.2.2.2.2))
      have hact : 0 ≤ act ∧ act ≤ 4294967295 := HST.out.2.1
      have HQX : Hid (∀ d ∈ x, 0 ≤ d.n ∧ 0 ≤ d.a ∧ d.a ≤ 4294967295) := Lib.hid (fun d hd => ⟨(HST.out.1.2.2.2 d hd).1, (HST.out.1.2.2.2 d hd).2.2.1, (HST.out.1.2.2.2 d hd).2.2.2⟩)
      have HACT := Lib.hid hact
      clear hact
      cases m with
      | false =>
        as_aux_lemma =>
          obtain ⟨kk, hkk⟩ : ∃ y, oputK ko a l x act val gone = y := ⟨_, rfl⟩
          obtain ⟨J, hJ⟩ : ∃ y, oputA ko a l x act val gone = y := ⟨_, rfl⟩
          obtain ⟨M, hM⟩ : ∃ y, oputL ko a l x act val gone = y := ⟨_, rfl⟩
          obtain ⟨X, hX⟩ : ∃ y, oputE ko a l x act val gone = y := ⟨_, rfl⟩
          obtain ⟨D, hD⟩ : ∃ y, oputD ko a l x act val gone = y := ⟨_, rfl⟩
          have hsz := oput_small ko a l x act val gone
          rw [hJ, hM] at hsz
          have jj : J.length * 16 ≤ 140737488355328 := by omega
          have jm : M.length * 40 ≤ 140737488355328 := by omega
          have jj2 : J.length * 16 ≤ 140737488351232 := by omega
          have jm2 : M.length * 40 ≤ 140737488351232 := by omega
          clear hsz
          have HSTR : Hid (StR J M) := Lib.hid (by rw [← hJ, ← hM]; exact oput_str HOI.out.str HQX.out HACT.out)
          have HEND : Hid (X = 0 → chkE kk J M = 0) := Lib.hid (fun h => by rw [← hJ, ← hM, ← hkk, (oput_yes (hX.trans h)).2.1]; exact oput_chk (hX.trans h))
          have E0 := Lib.hid hkk
          have E1 := Lib.hid hJ
          have E2 := Lib.hid hM
          have E3 := Lib.hid hX
          have E4 := Lib.hid hD
          clear hkk hJ hM hX hD
          have t1 : (X != X) = false := by simp
          obtain ⟨kk2, hkk2⟩ : ∃ y, oputK ko (a.map tD) (l.map tS) [] act val gone = y := ⟨_, rfl⟩
          obtain ⟨J2, hJ2⟩ : ∃ y, oputA ko (a.map tD) (l.map tS) [] act val gone = y := ⟨_, rfl⟩
          obtain ⟨M2, hM2⟩ : ∃ y, oputL ko (a.map tD) (l.map tS) [] act val gone = y := ⟨_, rfl⟩
          obtain ⟨X2, hX2⟩ : ∃ y, oputE ko (a.map tD) (l.map tS) [] act val gone = y := ⟨_, rfl⟩
          obtain ⟨D2, hD2⟩ : ∃ y, oputD ko (a.map tD) (l.map tS) [] act val gone = y := ⟨_, rfl⟩
          have TR := Lib.hid (turn_str HOI.out.str)
          obtain ⟨ta, hta⟩ : ∃ y, a.map tD = y := ⟨_, rfl⟩
          obtain ⟨tl, htl⟩ : ∃ y, l.map tS = y := ⟨_, rfl⟩
          have LA : Hid (ta.length = a.length) := Lib.hid (by rw [← hta, List.length_map])
          have LL0 : Hid (tl.length = l.length) := Lib.hid (by rw [← htl, List.length_map])
          rw [hta, htl] at TR hkk2 hJ2 hM2 hX2 hD2
          have hsz := oput_small ko ta tl [] act val gone
          rw [hJ2, hM2] at hsz
          have jk : J2.length * 16 ≤ 140737488355328 := by omega
          have jl : M2.length * 40 ≤ 140737488355328 := by omega
          clear hsz
          have G0 := Lib.hid hkk2
          have G1 := Lib.hid hJ2
          have G2 := Lib.hid hM2
          have G3 := Lib.hid hX2
          have G4 := Lib.hid hD2
          have HTA := Lib.hid hta
          have HTL := Lib.hid htl
          clear hkk2 hJ2 hM2 hX2 hD2 hta htl
          have t2 : (X2 != X2) = false := by simp
          have t3 : dEq D.a D.n D.a D.n = true := dEq_iff.2 rfl
          have t4 : dEq D2.a D2.n D2.a D2.n = true := dEq_iff.2 rfl
          have ta16 : Hid (ta.length * 16 ≤ 140737488351232) := Lib.hid (by rw [LA.out]; exact sa)
          have tl40 : Hid (tl.length * 40 ≤ 140737488351232) := Lib.hid (by rw [LL0.out]; exact sl)
          have y1 : (0 : Int) ≤ (x.length : Int) + 1 := by omega
          have y3 : IntKind.i64.wrap ((x.length : Int) + 1) = (x.length : Int) + 1 := IntWalk.i64_in _ (by omega)
          have y4 : ((x.length : Int) + 1).toNat = x.length + 1 := by omega
          have y5 : (0 : Int) ≤ (x.length : Int) := by omega
          have y6 : (x.length : Int) < (x.length : Int) + 1 := by omega
          go_wp2_with fail
          obtain ⟨Z1, hZ1⟩ : ∃ W : World, W = v0.alloc (.cells #[.bool false, .slice E x.length xc, .int .u32 act, .string val, .bool gone, .string key, .slice A2 a2.length ac, .slice B2 l2.length lc] 31) := ⟨_, rfl⟩
          rw [← hZ1]
          have LL : Hid (Below v0.heap.size v0 Z1) := Lib.hid (by rw [hZ1]; exact (by repeat (first | exact Below.refl _ _ | refine bl_drewN ?_ _ | refine bl_drew ?_ | refine bl_alloc ?_ _)))
          have X_ps : Hid (GR.Blk Z1 (v0.heap.size) 31 #[.bool false, .slice E x.length xc, .int .u32 act, .string val, .bool gone, .string key, .slice A2 a2.length ac, .slice B2 l2.length lc]) := Lib.hid (by rw [hZ1]; exact GR.Blk.new _ _ _)
          have mn1 : v0.heap.size + 1 ≤ Z1.heap.size := by rw [hZ1]; simp; try omega
          clear hZ1
          have F1 := Lib.hid (HS.nil Z1)
          have F2 := Lib.hid (HS.addB F1.out (g := v0.heap.size) (t := 31) (cs := #[.bool false, .slice E x.length xc, .int .u32 act, .string val, .bool gone, .string key, .slice A2 a2.length ac, .slice B2 l2.length lc]) (X_ps.out))
          clear F1
          clear X_ps
          have BB := LL
          clear LL
          clear po_0 po_1 po_2 s0 s1 s2 s3 s4 s5 s6 s7
          have F3 := Lib.hid (HS.addB F2.out (g := w.heap.size) (t := 27) (cs := #[.string ko, .slice A a.length c, .slice B l.length d]) (HPO.out.below BB.out HPO.out.lt))
          clear F2
          have F4 := Lib.hid (F3.out.addR (HOI.out.ra.below BB.out))
          clear F3
          have F5 := Lib.hid (F4.out.addR (HOI.out.rl.below BB.out))
          clear F4
          have F6 := Lib.hid (F5.out.addR (HST.out.1.1.below BB.out))
          clear F5
          have F7 := Lib.hid (F6.out.addR (HST.out.2.2.1.below BB.out))
          clear F6
          have F8 := Lib.hid (F7.out.addR (HST.out.2.2.2.1.below BB.out))
          clear F7
          refine (obTwin_any ko A B c d a l _ (F8.out.rd 4 rfl) (F8.out.rd 3 rfl) sa sl).mono ?_
          rintro e u2 ⟨g1x, h1x, g2x, h2x, rfl, ho, hb⟩
          have RG_x := Lib.hid (rows2_rng ho)
          have mn2 : Z1.heap.size ≤ u2.heap.size := Below.size hb
          have F9 := Lib.hid (F8.out.below hb)
          clear F8
          have F10 := Lib.hid (F9.out.addO (ho))
          clear F9
          replace BB := Lib.hid (bl_then BB.out hb)
          clear hb
          clear ho
          go_upto_region 10 with fail
          obtain ⟨Z3, hZ3⟩ : ∃ W : World, W = (((u2.alloc (.cells #[.string ko, .slice (some ⟨g1x, 0, none⟩) a.length h1x, .slice (some ⟨g2x, 0, none⟩) l.length h2x] 27)).alloc (.cells #[.string ⟨#[]⟩, .slice none 0 0, .slice none 0 0] 27)).alloc (.cells #[.string ⟨#[]⟩, .slice none 0 0, .slice none 0 0] 27)).alloc (.cells #[.string ⟨#[]⟩, .slice none 0 0, .slice none 0 0] 27) := ⟨_, rfl⟩
          rw [← hZ3]
          have LL : Hid (Below u2.heap.size u2 Z3) := Lib.hid (by rw [hZ3]; exact (by repeat (first | exact Below.refl _ _ | refine bl_drewN ?_ _ | refine bl_drew ?_ | refine bl_alloc ?_ _)))
          have X_px : Hid (GR.Blk Z3 (u2.heap.size) 27 #[.string ko, .slice (some ⟨g1x, 0, none⟩) a.length h1x, .slice (some ⟨g2x, 0, none⟩) l.length h2x]) := Lib.hid (by rw [hZ3]; exact (((GR.Blk.new _ _ _).alloc _).alloc _).alloc _)
          have X_p8 : Hid (GR.Blk Z3 (u2.heap.size + 1) 27 #[.string ⟨#[]⟩, .slice none 0 0, .slice none 0 0]) := Lib.hid (by rw [hZ3]; exact ((new_at _ _ _ (by simp)).alloc _).alloc _)
          have X_p9 : Hid (GR.Blk Z3 (u2.heap.size + 1 + 1) 27 #[.string ⟨#[]⟩, .slice none 0 0, .slice none 0 0]) := Lib.hid (by rw [hZ3]; exact (new_at _ _ _ (by simp)).alloc _)
          have X_p10 : Hid (GR.Blk Z3 (u2.heap.size + 1 + 1 + 1) 27 #[.string ⟨#[]⟩, .slice none 0 0, .slice none 0 0]) := Lib.hid (by rw [hZ3]; exact new_at _ _ _ (by simp))
          have mn3 : u2.heap.size + 4 ≤ Z3.heap.size := by rw [hZ3]; simp; try omega
          clear hZ3
          have F11 := Lib.hid (F10.out.below LL.out)
          clear F10
          have F12 := Lib.hid (HS.addB F11.out (g := u2.heap.size) (t := 27) (cs := #[.string ko, .slice (some ⟨g1x, 0, none⟩) a.length h1x, .slice (some ⟨g2x, 0, none⟩) l.length h2x]) (X_px.out))
          clear F11
          have F13 := Lib.hid (HS.addB F12.out (g := u2.heap.size + 1) (t := 27) (cs := #[.string ⟨#[]⟩, .slice none 0 0, .slice none 0 0]) (X_p8.out))
          clear F12
          have F14 := Lib.hid (HS.addB F13.out (g := u2.heap.size + 1 + 1) (t := 27) (cs := #[.string ⟨#[]⟩, .slice none 0 0, .slice none 0 0]) (X_p9.out))
          clear F13
          have F15 := Lib.hid (HS.addB F14.out (g := u2.heap.size + 1 + 1 + 1) (t := 27) (cs := #[.string ⟨#[]⟩, .slice none 0 0, .slice none 0 0]) (X_p10.out))
          clear F14
          clear X_px X_p8 X_p9 X_p10
          replace BB := Lib.hid (bl_then BB.out LL.out)
          clear LL
          have ps_0 : Z3.cell? ⟨v0.heap.size, 0, none⟩ = some (.bool false) := (F15.out.blk 11 rfl).cell 0
          have ps_1 : Z3.cell? ⟨v0.heap.size, 1, none⟩ = some (.slice E x.length xc) := (F15.out.blk 11 rfl).cell 1
          have ps_2 : Z3.cell? ⟨v0.heap.size, 2, none⟩ = some (.int .u32 act) := (F15.out.blk 11 rfl).cell 2
          have ps_3 : Z3.cell? ⟨v0.heap.size, 3, none⟩ = some (.string val) := (F15.out.blk 11 rfl).cell 3
          have ps_4 : Z3.cell? ⟨v0.heap.size, 4, none⟩ = some (.bool gone) := (F15.out.blk 11 rfl).cell 4
          have ps_5 : Z3.cell? ⟨v0.heap.size, 5, none⟩ = some (.string key) := (F15.out.blk 11 rfl).cell 5
          have ps_6 : Z3.cell? ⟨v0.heap.size, 6, none⟩ = some (.slice A2 a2.length ac) := (F15.out.blk 11 rfl).cell 6
          have ps_7 : Z3.cell? ⟨v0.heap.size, 7, none⟩ = some (.slice B2 l2.length lc) := (F15.out.blk 11 rfl).cell 7
          have ps_lt : v0.heap.size < Z3.heap.size := (F15.out.blk 11 rfl).lt
          go_wp2_with fail
          clear ps_0 ps_1 ps_2 ps_3 ps_4 ps_5 ps_6 ps_7 ps_lt
          refine (dots_any E xc x _ (F15.out.rd 7 rfl) sx).mono ?_
          rintro e u4 ⟨gq, hq, rfl, hod, hb⟩
          have y2 : (x.length : Int) + 1 ≤ (hq : Int) := by have := own_cap hod; rw [List.length_append] at this; have h9 : x.length + 1 ≤ hq := this; omega
          have ho : OwnS _ _ _ (.slice none 0 0) (x ++ [mkD]) [] := ⟨hod, GR.Own.nil _ _ _⟩
          have RG_q := Lib.hid (rows2_rng ho)
          have mn4 : Z3.heap.size ≤ u4.heap.size := Below.size hb
          have F16 := Lib.hid (F15.out.below hb)
          clear F15
          have F17 := Lib.hid (F16.out.addO (ho))
          clear F16
          replace BB := Lib.hid (bl_then BB.out hb)
          clear hb
          clear hod ho
          go_upto_region 21 with fail
          obtain ⟨Z5, hZ5⟩ : ∃ W : World, W = ((u4.alloc (.cells #[.int .u32 0, .int .u64 0] 41)).alloc (.cells #[.int .u32 0, .int .u64 0] 41)).alloc (.cells #[.int .u32 0, .int .u64 0] 41) := ⟨_, rfl⟩
          rw [← hZ5]
          have LL : Hid (Below u4.heap.size u4 Z5) := Lib.hid (by rw [hZ5]; exact (by repeat (first | exact Below.refl _ _ | refine bl_drewN ?_ _ | refine bl_drew ?_ | refine bl_alloc ?_ _)))
          have X_p16 : Hid (GR.Blk Z5 (u4.heap.size) 41 #[.int .u32 0, .int .u64 0]) := Lib.hid (by rw [hZ5]; exact ((GR.Blk.new _ _ _).alloc _).alloc _)
          have X_p17 : Hid (GR.Blk Z5 (u4.heap.size + 1) 41 #[.int .u32 0, .int .u64 0]) := Lib.hid (by rw [hZ5]; exact (new_at _ _ _ (by simp)).alloc _)
          have X_p18 : Hid (GR.Blk Z5 (u4.heap.size + 1 + 1) 41 #[.int .u32 0, .int .u64 0]) := Lib.hid (by rw [hZ5]; exact new_at _ _ _ (by simp))
          have mn5 : u4.heap.size + 3 ≤ Z5.heap.size := by rw [hZ5]; simp; try omega
          clear hZ5
          have F18 := Lib.hid (F17.out.below LL.out)
          clear F17
          have F19 := Lib.hid (HS.addB F18.out (g := u4.heap.size) (t := 41) (cs := #[.int .u32 0, .int .u64 0]) (X_p16.out))
          clear F18
          have F20 := Lib.hid (HS.addB F19.out (g := u4.heap.size + 1) (t := 41) (cs := #[.int .u32 0, .int .u64 0]) (X_p17.out))
          clear F19
          have F21 := Lib.hid (HS.addB F20.out (g := u4.heap.size + 1 + 1) (t := 41) (cs := #[.int .u32 0, .int .u64 0]) (X_p18.out))
          clear F20
          clear X_p16 X_p17 X_p18
          replace BB := Lib.hid (bl_then BB.out LL.out)
          clear LL
          have po_0 : Z5.cell? ⟨w.heap.size, 0, none⟩ = some (.string ko) := (F21.out.blk 14 rfl).cell 0
          have po_1 : Z5.cell? ⟨w.heap.size, 1, none⟩ = some (.slice A a.length c) := (F21.out.blk 14 rfl).cell 1
          have po_2 : Z5.cell? ⟨w.heap.size, 2, none⟩ = some (.slice B l.length d) := (F21.out.blk 14 rfl).cell 2
          have ps_0 : Z5.cell? ⟨v0.heap.size, 0, none⟩ = some (.bool false) := (F21.out.blk 15 rfl).cell 0
          have ps_1 : Z5.cell? ⟨v0.heap.size, 1, none⟩ = some (.slice E x.length xc) := (F21.out.blk 15 rfl).cell 1
          have ps_2 : Z5.cell? ⟨v0.heap.size, 2, none⟩ = some (.int .u32 act) := (F21.out.blk 15 rfl).cell 2
          have ps_3 : Z5.cell? ⟨v0.heap.size, 3, none⟩ = some (.string val) := (F21.out.blk 15 rfl).cell 3
          have ps_4 : Z5.cell? ⟨v0.heap.size, 4, none⟩ = some (.bool gone) := (F21.out.blk 15 rfl).cell 4
          have ps_5 : Z5.cell? ⟨v0.heap.size, 5, none⟩ = some (.string key) := (F21.out.blk 15 rfl).cell 5
          have ps_6 : Z5.cell? ⟨v0.heap.size, 6, none⟩ = some (.slice A2 a2.length ac) := (F21.out.blk 15 rfl).cell 6
          have ps_7 : Z5.cell? ⟨v0.heap.size, 7, none⟩ = some (.slice B2 l2.length lc) := (F21.out.blk 15 rfl).cell 7
          have po_lt : w.heap.size < Z5.heap.size := (F21.out.blk 14 rfl).lt
          have ps_lt : v0.heap.size < Z5.heap.size := (F21.out.blk 15 rfl).lt
          go_wp2_with fail
          clear po_0 po_1 po_2 po_lt ps_0 ps_1 ps_2 ps_3 ps_4 ps_5 ps_6 ps_7 ps_lt
          refine (doputO J M D X (F21.out.rd 13 rfl) (F21.out.rd 12 rfl) (F21.out.rd 11 rfl) rfl rfl rfl HOI.out.str HQX.out HACT.out E0.out E1.out E2.out E3.out E4.out).mono ?_
          rintro e u6 ⟨Aw, Bw, cw, dw, rfl, ho, hb⟩
          have RG_w := Lib.hid (rows2_rng ho)
          have mn6 : Z5.heap.size ≤ u6.heap.size := Below.size hb
          have F22 := Lib.hid (F21.out.below hb)
          clear F21
          have F23 := Lib.hid (F22.out.addO (ho))
          clear F22
          replace BB := Lib.hid (bl_then BB.out hb)
          clear hb
          clear ho
          have p8_0 : u6.cell? ⟨u2.heap.size + 1, 0, none⟩ = some (.string ⟨#[]⟩) := (F23.out.blk 7 rfl).cell 0
          have p8_1 : u6.cell? ⟨u2.heap.size + 1, 1, none⟩ = some (.slice none 0 0) := (F23.out.blk 7 rfl).cell 1
          have p8_2 : u6.cell? ⟨u2.heap.size + 1, 2, none⟩ = some (.slice none 0 0) := (F23.out.blk 7 rfl).cell 2
          have p16_0 : u6.cell? ⟨u4.heap.size, 0, none⟩ = some (.int .u32 0) := (F23.out.blk 3 rfl).cell 0
          have p16_1 : u6.cell? ⟨u4.heap.size, 1, none⟩ = some (.int .u64 0) := (F23.out.blk 3 rfl).cell 1
          have p8_lt : u2.heap.size + 1 < u6.heap.size := (F23.out.blk 7 rfl).lt
          have p16_lt : u4.heap.size < u6.heap.size := (F23.out.blk 3 rfl).lt
          have p8_f0 := (F23.out.blk 7 rfl).frozen 0
          have p8_f1 := (F23.out.blk 7 rfl).frozen 1
          have p8_f2 := (F23.out.blk 7 rfl).frozen 2
          have p16_f0 := (F23.out.blk 3 rfl).frozen 0
          have p16_f1 := (F23.out.blk 3 rfl).frozen 1
          go_upto_region 22 with fail
          clear p8_0 p8_1 p8_2 p8_lt p16_0 p16_1 p16_lt
          clear p8_f0 p8_f1 p8_f2 p16_f0 p16_f1
          obtain ⟨Z7, hZ7⟩ : ∃ W : World, W = (((u6.setCell ⟨u2.heap.size + 1, 0, none⟩ (.string kk)).setCell ⟨u2.heap.size + 1, 1, none⟩ (.slice Aw J.length cw)).setCell ⟨u2.heap.size + 1, 2, none⟩ (.slice Bw M.length dw)) := ⟨_, rfl⟩
          rw [← hZ7]
          have hch : Chg (fun k => k = u2.heap.size + 1) u6 Z7 := by rw [hZ7]; exact chg_set3 _ _ _ _ _
          have XN : Hid (GR.Blk Z7 (u2.heap.size + 1) 27 #[.string kk, .slice Aw J.length cw, .slice Bw M.length dw]) := Lib.hid (by rw [hZ7]; exact blk_set3 (F23.out.blk 7 rfl))
          have mn7 : u6.heap.size ≤ Z7.heap.size := hch.size
          have BC : Below v0.heap.size u6 Z7 := hch.below BB.out.size (fun k e => by subst e; omega)
          replace BB := Lib.hid (BB.out.trans BC)
          clear hZ7 BC
          have X_ps := Lib.hid (blk_ne (F23.out.blk 16 rfl) hch (by omega))
          have X_px := Lib.hid (blk_ne (F23.out.blk 8 rfl) hch (by omega))
          have X_p8 := Lib.hid (XN.out)
          have X_p9 := Lib.hid (blk_ne (F23.out.blk 6 rfl) hch (by omega))
          have X_p10 := Lib.hid (blk_ne (F23.out.blk 5 rfl) hch (by omega))
          have X_p16 := Lib.hid (blk_ne (F23.out.blk 3 rfl) hch (by omega))
          have X_p17 := Lib.hid (blk_ne (F23.out.blk 2 rfl) hch (by omega))
          have X_p18 := Lib.hid (blk_ne (F23.out.blk 1 rfl) hch (by omega))
          have Y_x := Lib.hid (owns_blk (F23.out.own 9 rfl) (F23.out.blk 7 rfl) hch)
          have Y_q := Lib.hid (owns_blk (F23.out.own 4 rfl) (F23.out.blk 7 rfl) hch)
          have Y_w := Lib.hid (owns_blk (F23.out.own 0 rfl) (F23.out.blk 7 rfl) hch)
          have F24 := Lib.hid (HS.nil Z7)
          have F25 := Lib.hid (HS.addB F24.out (g := w.heap.size) (t := 27) (cs := #[.string ko, .slice A a.length c, .slice B l.length d]) (HPO.out.below BB.out HPO.out.lt))
          clear F24
          have F26 := Lib.hid (F25.out.addR (HOI.out.ra.below BB.out))
          clear F25
          have F27 := Lib.hid (F26.out.addR (HOI.out.rl.below BB.out))
          clear F26
          have F28 := Lib.hid (F27.out.addR (HST.out.1.1.below BB.out))
          clear F27
          have F29 := Lib.hid (F28.out.addR (HST.out.2.2.1.below BB.out))
          clear F28
          have F30 := Lib.hid (F29.out.addR (HST.out.2.2.2.1.below BB.out))
          clear F29
          have F31 := Lib.hid (HS.addB F30.out (g := v0.heap.size) (t := 31) (cs := #[.bool false, .slice E x.length xc, .int .u32 act, .string val, .bool gone, .string key, .slice A2 a2.length ac, .slice B2 l2.length lc]) (X_ps.out))
          clear F30
          have F32 := Lib.hid (HS.addB F31.out (g := u2.heap.size) (t := 27) (cs := #[.string ko, .slice (some ⟨g1x, 0, none⟩) a.length h1x, .slice (some ⟨g2x, 0, none⟩) l.length h2x]) (X_px.out))
          clear F31
          have F33 := Lib.hid (HS.addB F32.out (g := u2.heap.size + 1) (t := 27) (cs := #[.string kk, .slice Aw J.length cw, .slice Bw M.length dw]) (X_p8.out))
          clear F32
          have F34 := Lib.hid (HS.addB F33.out (g := u2.heap.size + 1 + 1) (t := 27) (cs := #[.string ⟨#[]⟩, .slice none 0 0, .slice none 0 0]) (X_p9.out))
          clear F33
          have F35 := Lib.hid (HS.addB F34.out (g := u2.heap.size + 1 + 1 + 1) (t := 27) (cs := #[.string ⟨#[]⟩, .slice none 0 0, .slice none 0 0]) (X_p10.out))
          clear F34
          have F36 := Lib.hid (HS.addB F35.out (g := u4.heap.size) (t := 41) (cs := #[.int .u32 0, .int .u64 0]) (X_p16.out))
          clear F35
          have F37 := Lib.hid (HS.addB F36.out (g := u4.heap.size + 1) (t := 41) (cs := #[.int .u32 0, .int .u64 0]) (X_p17.out))
          clear F36
          have F38 := Lib.hid (HS.addB F37.out (g := u4.heap.size + 1 + 1) (t := 41) (cs := #[.int .u32 0, .int .u64 0]) (X_p18.out))
          clear F37
          have F39 := Lib.hid (F38.out.addO (Y_x.out))
          clear F38
          have F40 := Lib.hid (F39.out.addO (Y_q.out))
          clear F39
          have F41 := Lib.hid (F40.out.addO (Y_w.out))
          clear F40
          clear F23 X_ps X_px X_p8 X_p9 X_p10 X_p16 X_p17 X_p18 Y_x Y_q Y_w
          clear hch XN
          obtain ⟨Z8, hZ8⟩ : ∃ W : World, W = ((Z7.setCell ⟨u4.heap.size, 0, none⟩ (.int .u32 D.a)).setCell ⟨u4.heap.size, 1, none⟩ (.int .u64 D.n)) := ⟨_, rfl⟩
          rw [← hZ8]
          have hch : Chg (fun k => k = u4.heap.size) Z7 Z8 := by rw [hZ8]; exact chg_set2 _ _ _ _
          have XN : Hid (GR.Blk Z8 (u4.heap.size) 41 #[.int .u32 D.a, .int .u64 D.n]) := Lib.hid (by rw [hZ8]; exact blk_set2 (F41.out.blk 5 rfl))
          have mn8 : Z7.heap.size ≤ Z8.heap.size := hch.size
          have BC : Below v0.heap.size Z7 Z8 := hch.below BB.out.size (fun k e => by subst e; omega)
          replace BB := Lib.hid (BB.out.trans BC)
          clear hZ8 BC
          have X_ps := Lib.hid (blk_ne (F41.out.blk 10 rfl) hch (by omega))
          have X_px := Lib.hid (blk_ne (F41.out.blk 9 rfl) hch (by omega))
          have X_p8 := Lib.hid (blk_ne (F41.out.blk 8 rfl) hch (by omega))
          have X_p9 := Lib.hid (blk_ne (F41.out.blk 7 rfl) hch (by omega))
          have X_p10 := Lib.hid (blk_ne (F41.out.blk 6 rfl) hch (by omega))
          have X_p16 := Lib.hid (XN.out)
          have X_p17 := Lib.hid (blk_ne (F41.out.blk 4 rfl) hch (by omega))
          have X_p18 := Lib.hid (blk_ne (F41.out.blk 3 rfl) hch (by omega))
          have Y_x := Lib.hid (owns_at (F41.out.own 2 rfl) RG_x.out hch (by omega))
          have Y_q := Lib.hid (owns_at (F41.out.own 1 rfl) RG_q.out hch (by omega))
          have Y_w := Lib.hid (owns_at (F41.out.own 0 rfl) RG_w.out hch (by omega))
          have F42 := Lib.hid (HS.nil Z8)
          have F43 := Lib.hid (HS.addB F42.out (g := w.heap.size) (t := 27) (cs := #[.string ko, .slice A a.length c, .slice B l.length d]) (HPO.out.below BB.out HPO.out.lt))
          clear F42
          have F44 := Lib.hid (F43.out.addR (HOI.out.ra.below BB.out))
          clear F43
          have F45 := Lib.hid (F44.out.addR (HOI.out.rl.below BB.out))
          clear F44
          have F46 := Lib.hid (F45.out.addR (HST.out.1.1.below BB.out))
          clear F45
          have F47 := Lib.hid (F46.out.addR (HST.out.2.2.1.below BB.out))
          clear F46
          have F48 := Lib.hid (F47.out.addR (HST.out.2.2.2.1.below BB.out))
          clear F47
          have F49 := Lib.hid (HS.addB F48.out (g := v0.heap.size) (t := 31) (cs := #[.bool false, .slice E x.length xc, .int .u32 act, .string val, .bool gone, .string key, .slice A2 a2.length ac, .slice B2 l2.length lc]) (X_ps.out))
          clear F48
          have F50 := Lib.hid (HS.addB F49.out (g := u2.heap.size) (t := 27) (cs := #[.string ko, .slice (some ⟨g1x, 0, none⟩) a.length h1x, .slice (some ⟨g2x, 0, none⟩) l.length h2x]) (X_px.out))
          clear F49
          have F51 := Lib.hid (HS.addB F50.out (g := u2.heap.size + 1) (t := 27) (cs := #[.string kk, .slice Aw J.length cw, .slice Bw M.length dw]) (X_p8.out))
          clear F50
          have F52 := Lib.hid (HS.addB F51.out (g := u2.heap.size + 1 + 1) (t := 27) (cs := #[.string ⟨#[]⟩, .slice none 0 0, .slice none 0 0]) (X_p9.out))
          clear F51
          have F53 := Lib.hid (HS.addB F52.out (g := u2.heap.size + 1 + 1 + 1) (t := 27) (cs := #[.string ⟨#[]⟩, .slice none 0 0, .slice none 0 0]) (X_p10.out))
          clear F52
          have F54 := Lib.hid (HS.addB F53.out (g := u4.heap.size) (t := 41) (cs := #[.int .u32 D.a, .int .u64 D.n]) (X_p16.out))
          clear F53
          have F55 := Lib.hid (HS.addB F54.out (g := u4.heap.size + 1) (t := 41) (cs := #[.int .u32 0, .int .u64 0]) (X_p17.out))
          clear F54
          have F56 := Lib.hid (HS.addB F55.out (g := u4.heap.size + 1 + 1) (t := 41) (cs := #[.int .u32 0, .int .u64 0]) (X_p18.out))
          clear F55
          have F57 := Lib.hid (F56.out.addO (Y_x.out))
          clear F56
          have F58 := Lib.hid (F57.out.addO (Y_q.out))
          clear F57
          have F59 := Lib.hid (F58.out.addO (Y_w.out))
          clear F58
          clear F41 X_ps X_px X_p8 X_p9 X_p10 X_p16 X_p17 X_p18 Y_x Y_q Y_w
          clear hch XN
          have px_0 : Z8.cell? ⟨u2.heap.size, 0, none⟩ = some (.string ko) := (F59.out.blk 9 rfl).cell 0
          have px_1 : Z8.cell? ⟨u2.heap.size, 1, none⟩ = some (.slice (some ⟨g1x, 0, none⟩) a.length h1x) := (F59.out.blk 9 rfl).cell 1
          have px_2 : Z8.cell? ⟨u2.heap.size, 2, none⟩ = some (.slice (some ⟨g2x, 0, none⟩) l.length h2x) := (F59.out.blk 9 rfl).cell 2
          have ps_0 : Z8.cell? ⟨v0.heap.size, 0, none⟩ = some (.bool false) := (F59.out.blk 10 rfl).cell 0
          have ps_1 : Z8.cell? ⟨v0.heap.size, 1, none⟩ = some (.slice E x.length xc) := (F59.out.blk 10 rfl).cell 1
          have ps_2 : Z8.cell? ⟨v0.heap.size, 2, none⟩ = some (.int .u32 act) := (F59.out.blk 10 rfl).cell 2
          have ps_3 : Z8.cell? ⟨v0.heap.size, 3, none⟩ = some (.string val) := (F59.out.blk 10 rfl).cell 3
          have ps_4 : Z8.cell? ⟨v0.heap.size, 4, none⟩ = some (.bool gone) := (F59.out.blk 10 rfl).cell 4
          have ps_5 : Z8.cell? ⟨v0.heap.size, 5, none⟩ = some (.string key) := (F59.out.blk 10 rfl).cell 5
          have ps_6 : Z8.cell? ⟨v0.heap.size, 6, none⟩ = some (.slice A2 a2.length ac) := (F59.out.blk 10 rfl).cell 6
          have ps_7 : Z8.cell? ⟨v0.heap.size, 7, none⟩ = some (.slice B2 l2.length lc) := (F59.out.blk 10 rfl).cell 7
          have px_lt : u2.heap.size < Z8.heap.size := (F59.out.blk 9 rfl).lt
          have ps_lt : v0.heap.size < Z8.heap.size := (F59.out.blk 10 rfl).lt
          go_wp2_with fail
          clear px_0 px_1 px_2 px_lt ps_0 ps_1 ps_2 ps_3 ps_4 ps_5 ps_6 ps_7 ps_lt
          refine (oputO J M D X (rd_take (F59.out.own 2 rfl).d (by show a.length * 16 ≤ _; omega)) (rd_take (F59.out.own 2 rfl).s (by show l.length * 40 ≤ _; omega)) (rd_take (F59.out.own 1 rfl).d (by show x.length * 16 ≤ _; omega)) rfl rfl rfl (cap_take (own_cap (F59.out.own 2 rfl).d)) (cap_take (own_cap (F59.out.own 1 rfl).d)) HOI.out.str HQX.out HACT.out E0.out E1.out E2.out E3.out E4.out).mono ?_
          rintro e u9 ⟨Ag, Bg, cg, dg, rfl, ho, hb⟩
          have RG_g := Lib.hid (rows2_rng ho)
          have mn9 : Z8.heap.size ≤ u9.heap.size := Below.size hb
          have F60 := Lib.hid (F59.out.below hb)
          clear F59
          have F61 := Lib.hid (F60.out.addO (ho))
          clear F60
          replace BB := Lib.hid (bl_then BB.out hb)
          clear hb
          clear ho
          have p9_0 : u9.cell? ⟨u2.heap.size + 1 + 1, 0, none⟩ = some (.string ⟨#[]⟩) := (F61.out.blk 8 rfl).cell 0
          have p9_1 : u9.cell? ⟨u2.heap.size + 1 + 1, 1, none⟩ = some (.slice none 0 0) := (F61.out.blk 8 rfl).cell 1
          have p9_2 : u9.cell? ⟨u2.heap.size + 1 + 1, 2, none⟩ = some (.slice none 0 0) := (F61.out.blk 8 rfl).cell 2
          have p17_0 : u9.cell? ⟨u4.heap.size + 1, 0, none⟩ = some (.int .u32 0) := (F61.out.blk 5 rfl).cell 0
          have p17_1 : u9.cell? ⟨u4.heap.size + 1, 1, none⟩ = some (.int .u64 0) := (F61.out.blk 5 rfl).cell 1
          have p9_lt : u2.heap.size + 1 + 1 < u9.heap.size := (F61.out.blk 8 rfl).lt
          have p17_lt : u4.heap.size + 1 < u9.heap.size := (F61.out.blk 5 rfl).lt
          have p9_f0 := (F61.out.blk 8 rfl).frozen 0
          have p9_f1 := (F61.out.blk 8 rfl).frozen 1
          have p9_f2 := (F61.out.blk 8 rfl).frozen 2
          have p17_f0 := (F61.out.blk 5 rfl).frozen 0
          have p17_f1 := (F61.out.blk 5 rfl).frozen 1
          go_upto_region 23 with fail
          clear p9_0 p9_1 p9_2 p9_lt p17_0 p17_1 p17_lt
          clear p9_f0 p9_f1 p9_f2 p17_f0 p17_f1
          obtain ⟨Z10, hZ10⟩ : ∃ W : World, W = (((u9.setCell ⟨u2.heap.size + 1 + 1, 0, none⟩ (.string kk)).setCell ⟨u2.heap.size + 1 + 1, 1, none⟩ (.slice Ag J.length cg)).setCell ⟨u2.heap.size + 1 + 1, 2, none⟩ (.slice Bg M.length dg)) := ⟨_, rfl⟩
          rw [← hZ10]
          have hch : Chg (fun k => k = u2.heap.size + 1 + 1) u9 Z10 := by rw [hZ10]; exact chg_set3 _ _ _ _ _
          have XN : Hid (GR.Blk Z10 (u2.heap.size + 1 + 1) 27 #[.string kk, .slice Ag J.length cg, .slice Bg M.length dg]) := Lib.hid (by rw [hZ10]; exact blk_set3 (F61.out.blk 8 rfl))
          have mn10 : u9.heap.size ≤ Z10.heap.size := hch.size
          have BC : Below v0.heap.size u9 Z10 := hch.below BB.out.size (fun k e => by subst e; omega)
          replace BB := Lib.hid (BB.out.trans BC)
          clear hZ10 BC
          have X_ps := Lib.hid (blk_ne (F61.out.blk 11 rfl) hch (by omega))
          have X_px := Lib.hid (blk_ne (F61.out.blk 10 rfl) hch (by omega))
          have X_p8 := Lib.hid (blk_ne (F61.out.blk 9 rfl) hch (by omega))
          have X_p9 := Lib.hid (XN.out)
          have X_p10 := Lib.hid (blk_ne (F61.out.blk 7 rfl) hch (by omega))
          have X_p16 := Lib.hid (blk_ne (F61.out.blk 6 rfl) hch (by omega))
          have X_p17 := Lib.hid (blk_ne (F61.out.blk 5 rfl) hch (by omega))
          have X_p18 := Lib.hid (blk_ne (F61.out.blk 4 rfl) hch (by omega))
          have Y_x := Lib.hid (owns_blk (F61.out.own 3 rfl) (F61.out.blk 8 rfl) hch)
          have Y_q := Lib.hid (owns_blk (F61.out.own 2 rfl) (F61.out.blk 8 rfl) hch)
          have Y_w := Lib.hid (owns_blk (F61.out.own 1 rfl) (F61.out.blk 8 rfl) hch)
          have Y_g := Lib.hid (owns_blk (F61.out.own 0 rfl) (F61.out.blk 8 rfl) hch)
          have F62 := Lib.hid (HS.nil Z10)
          have F63 := Lib.hid (HS.addB F62.out (g := w.heap.size) (t := 27) (cs := #[.string ko, .slice A a.length c, .slice B l.length d]) (HPO.out.below BB.out HPO.out.lt))
          clear F62
          have F64 := Lib.hid (F63.out.addR (HOI.out.ra.below BB.out))
          clear F63
          have F65 := Lib.hid (F64.out.addR (HOI.out.rl.below BB.out))
          clear F64
          have F66 := Lib.hid (F65.out.addR (HST.out.1.1.below BB.out))
          clear F65
          have F67 := Lib.hid (F66.out.addR (HST.out.2.2.1.below BB.out))
          clear F66
          have F68 := Lib.hid (F67.out.addR (HST.out.2.2.2.1.below BB.out))
          clear F67
          have F69 := Lib.hid (HS.addB F68.out (g := v0.heap.size) (t := 31) (cs := #[.bool false, .slice E x.length xc, .int .u32 act, .string val, .bool gone, .string key, .slice A2 a2.length ac, .slice B2 l2.length lc]) (X_ps.out))
          clear F68
          have F70 := Lib.hid (HS.addB F69.out (g := u2.heap.size) (t := 27) (cs := #[.string ko, .slice (some ⟨g1x, 0, none⟩) a.length h1x, .slice (some ⟨g2x, 0, none⟩) l.length h2x]) (X_px.out))
          clear F69
          have F71 := Lib.hid (HS.addB F70.out (g := u2.heap.size + 1) (t := 27) (cs := #[.string kk, .slice Aw J.length cw, .slice Bw M.length dw]) (X_p8.out))
          clear F70
          have F72 := Lib.hid (HS.addB F71.out (g := u2.heap.size + 1 + 1) (t := 27) (cs := #[.string kk, .slice Ag J.length cg, .slice Bg M.length dg]) (X_p9.out))
          clear F71
          have F73 := Lib.hid (HS.addB F72.out (g := u2.heap.size + 1 + 1 + 1) (t := 27) (cs := #[.string ⟨#[]⟩, .slice none 0 0, .slice none 0 0]) (X_p10.out))
          clear F72
          have F74 := Lib.hid (HS.addB F73.out (g := u4.heap.size) (t := 41) (cs := #[.int .u32 D.a, .int .u64 D.n]) (X_p16.out))
          clear F73
          have F75 := Lib.hid (HS.addB F74.out (g := u4.heap.size + 1) (t := 41) (cs := #[.int .u32 0, .int .u64 0]) (X_p17.out))
          clear F74
          have F76 := Lib.hid (HS.addB F75.out (g := u4.heap.size + 1 + 1) (t := 41) (cs := #[.int .u32 0, .int .u64 0]) (X_p18.out))
          clear F75
          have F77 := Lib.hid (F76.out.addO (Y_x.out))
          clear F76
          have F78 := Lib.hid (F77.out.addO (Y_q.out))
          clear F77
          have F79 := Lib.hid (F78.out.addO (Y_w.out))
          clear F78
          have F80 := Lib.hid (F79.out.addO (Y_g.out))
          clear F79
          clear F61 X_ps X_px X_p8 X_p9 X_p10 X_p16 X_p17 X_p18 Y_x Y_q Y_w Y_g
          clear hch XN
          obtain ⟨Z11, hZ11⟩ : ∃ W : World, W = ((Z10.setCell ⟨u4.heap.size + 1, 0, none⟩ (.int .u32 D.a)).setCell ⟨u4.heap.size + 1, 1, none⟩ (.int .u64 D.n)) := ⟨_, rfl⟩
          rw [← hZ11]
          have hch : Chg (fun k => k = u4.heap.size + 1) Z10 Z11 := by rw [hZ11]; exact chg_set2 _ _ _ _
          have XN : Hid (GR.Blk Z11 (u4.heap.size + 1) 41 #[.int .u32 D.a, .int .u64 D.n]) := Lib.hid (by rw [hZ11]; exact blk_set2 (F80.out.blk 5 rfl))
          have mn11 : Z10.heap.size ≤ Z11.heap.size := hch.size
          have BC : Below v0.heap.size Z10 Z11 := hch.below BB.out.size (fun k e => by subst e; omega)
          replace BB := Lib.hid (BB.out.trans BC)
          clear hZ11 BC
          have X_ps := Lib.hid (blk_ne (F80.out.blk 11 rfl) hch (by omega))
          have X_px := Lib.hid (blk_ne (F80.out.blk 10 rfl) hch (by omega))
          have X_p8 := Lib.hid (blk_ne (F80.out.blk 9 rfl) hch (by omega))
          have X_p9 := Lib.hid (blk_ne (F80.out.blk 8 rfl) hch (by omega))
          have X_p10 := Lib.hid (blk_ne (F80.out.blk 7 rfl) hch (by omega))
          have X_p16 := Lib.hid (blk_ne (F80.out.blk 6 rfl) hch (by omega))
          have X_p17 := Lib.hid (XN.out)
          have X_p18 := Lib.hid (blk_ne (F80.out.blk 4 rfl) hch (by omega))
          have Y_x := Lib.hid (owns_at (F80.out.own 3 rfl) RG_x.out hch (by omega))
          have Y_q := Lib.hid (owns_at (F80.out.own 2 rfl) RG_q.out hch (by omega))
          have Y_w := Lib.hid (owns_at (F80.out.own 1 rfl) RG_w.out hch (by omega))
          have Y_g := Lib.hid (owns_at (F80.out.own 0 rfl) RG_g.out hch (by omega))
          have F81 := Lib.hid (HS.nil Z11)
          have F82 := Lib.hid (HS.addB F81.out (g := w.heap.size) (t := 27) (cs := #[.string ko, .slice A a.length c, .slice B l.length d]) (HPO.out.below BB.out HPO.out.lt))
          clear F81
          have F83 := Lib.hid (F82.out.addR (HOI.out.ra.below BB.out))
          clear F82
          have F84 := Lib.hid (F83.out.addR (HOI.out.rl.below BB.out))
          clear F83
          have F85 := Lib.hid (F84.out.addR (HST.out.1.1.below BB.out))
          clear F84
          have F86 := Lib.hid (F85.out.addR (HST.out.2.2.1.below BB.out))
          clear F85
          have F87 := Lib.hid (F86.out.addR (HST.out.2.2.2.1.below BB.out))
          clear F86
          have F88 := Lib.hid (HS.addB F87.out (g := v0.heap.size) (t := 31) (cs := #[.bool false, .slice E x.length xc, .int .u32 act, .string val, .bool gone, .string key, .slice A2 a2.length ac, .slice B2 l2.length lc]) (X_ps.out))
          clear F87
          have F89 := Lib.hid (HS.addB F88.out (g := u2.heap.size) (t := 27) (cs := #[.string ko, .slice (some ⟨g1x, 0, none⟩) a.length h1x, .slice (some ⟨g2x, 0, none⟩) l.length h2x]) (X_px.out))
          clear F88
          have F90 := Lib.hid (HS.addB F89.out (g := u2.heap.size + 1) (t := 27) (cs := #[.string kk, .slice Aw J.length cw, .slice Bw M.length dw]) (X_p8.out))
          clear F89
          have F91 := Lib.hid (HS.addB F90.out (g := u2.heap.size + 1 + 1) (t := 27) (cs := #[.string kk, .slice Ag J.length cg, .slice Bg M.length dg]) (X_p9.out))
          clear F90
          have F92 := Lib.hid (HS.addB F91.out (g := u2.heap.size + 1 + 1 + 1) (t := 27) (cs := #[.string ⟨#[]⟩, .slice none 0 0, .slice none 0 0]) (X_p10.out))
          clear F91
          have F93 := Lib.hid (HS.addB F92.out (g := u4.heap.size) (t := 41) (cs := #[.int .u32 D.a, .int .u64 D.n]) (X_p16.out))
          clear F92
          have F94 := Lib.hid (HS.addB F93.out (g := u4.heap.size + 1) (t := 41) (cs := #[.int .u32 D.a, .int .u64 D.n]) (X_p17.out))
          clear F93
          have F95 := Lib.hid (HS.addB F94.out (g := u4.heap.size + 1 + 1) (t := 41) (cs := #[.int .u32 0, .int .u64 0]) (X_p18.out))
          clear F94
          have F96 := Lib.hid (F95.out.addO (Y_x.out))
          clear F95
          have F97 := Lib.hid (F96.out.addO (Y_q.out))
          clear F96
          have F98 := Lib.hid (F97.out.addO (Y_w.out))
          clear F97
          have F99 := Lib.hid (F98.out.addO (Y_g.out))
          clear F98
          clear F80 X_ps X_px X_p8 X_p9 X_p10 X_p16 X_p17 X_p18 Y_x Y_q Y_w Y_g
          clear hch XN
          have px_0 : Z11.cell? ⟨u2.heap.size, 0, none⟩ = some (.string ko) := (F99.out.blk 10 rfl).cell 0
          have px_1 : Z11.cell? ⟨u2.heap.size, 1, none⟩ = some (.slice (some ⟨g1x, 0, none⟩) a.length h1x) := (F99.out.blk 10 rfl).cell 1
          have px_2 : Z11.cell? ⟨u2.heap.size, 2, none⟩ = some (.slice (some ⟨g2x, 0, none⟩) l.length h2x) := (F99.out.blk 10 rfl).cell 2
          have ps_0 : Z11.cell? ⟨v0.heap.size, 0, none⟩ = some (.bool false) := (F99.out.blk 11 rfl).cell 0
          have ps_1 : Z11.cell? ⟨v0.heap.size, 1, none⟩ = some (.slice E x.length xc) := (F99.out.blk 11 rfl).cell 1
          have ps_2 : Z11.cell? ⟨v0.heap.size, 2, none⟩ = some (.int .u32 act) := (F99.out.blk 11 rfl).cell 2
          have ps_3 : Z11.cell? ⟨v0.heap.size, 3, none⟩ = some (.string val) := (F99.out.blk 11 rfl).cell 3
          have ps_4 : Z11.cell? ⟨v0.heap.size, 4, none⟩ = some (.bool gone) := (F99.out.blk 11 rfl).cell 4
          have ps_5 : Z11.cell? ⟨v0.heap.size, 5, none⟩ = some (.string key) := (F99.out.blk 11 rfl).cell 5
          have ps_6 : Z11.cell? ⟨v0.heap.size, 6, none⟩ = some (.slice A2 a2.length ac) := (F99.out.blk 11 rfl).cell 6
          have ps_7 : Z11.cell? ⟨v0.heap.size, 7, none⟩ = some (.slice B2 l2.length lc) := (F99.out.blk 11 rfl).cell 7
          have px_lt : u2.heap.size < Z11.heap.size := (F99.out.blk 10 rfl).lt
          have ps_lt : v0.heap.size < Z11.heap.size := (F99.out.blk 11 rfl).lt
          go_wp2_with fail
          clear px_0 px_1 px_2 px_lt ps_0 ps_1 ps_2 ps_3 ps_4 ps_5 ps_6 ps_7 ps_lt
          refine (oputO J M D X (rd_take (F99.out.own 3 rfl).d (by show a.length * 16 ≤ _; omega)) (rd_take (F99.out.own 3 rfl).s (by show l.length * 40 ≤ _; omega)) (rd_take (F99.out.own 2 rfl).d (by show x.length * 16 ≤ _; omega)) rfl rfl rfl (cap_take (own_cap (F99.out.own 3 rfl).d)) (cap_take (own_cap (F99.out.own 2 rfl).d)) HOI.out.str HQX.out HACT.out E0.out E1.out E2.out E3.out E4.out).mono ?_
          rintro e u12 ⟨An, Bn, cn, dn, rfl, ho, hb⟩
          have RG_n := Lib.hid (rows2_rng ho)
          have mn12 : Z11.heap.size ≤ u12.heap.size := Below.size hb
          have F100 := Lib.hid (F99.out.below hb)
          clear F99
          have F101 := Lib.hid (F100.out.addO (ho))
          clear F100
          replace BB := Lib.hid (bl_then BB.out hb)
          clear hb
          clear ho
          have p10_0 : u12.cell? ⟨u2.heap.size + 1 + 1 + 1, 0, none⟩ = some (.string ⟨#[]⟩) := (F101.out.blk 8 rfl).cell 0
          have p10_1 : u12.cell? ⟨u2.heap.size + 1 + 1 + 1, 1, none⟩ = some (.slice none 0 0) := (F101.out.blk 8 rfl).cell 1
          have p10_2 : u12.cell? ⟨u2.heap.size + 1 + 1 + 1, 2, none⟩ = some (.slice none 0 0) := (F101.out.blk 8 rfl).cell 2
          have p18_0 : u12.cell? ⟨u4.heap.size + 1 + 1, 0, none⟩ = some (.int .u32 0) := (F101.out.blk 5 rfl).cell 0
          have p18_1 : u12.cell? ⟨u4.heap.size + 1 + 1, 1, none⟩ = some (.int .u64 0) := (F101.out.blk 5 rfl).cell 1
          have p10_lt : u2.heap.size + 1 + 1 + 1 < u12.heap.size := (F101.out.blk 8 rfl).lt
          have p18_lt : u4.heap.size + 1 + 1 < u12.heap.size := (F101.out.blk 5 rfl).lt
          have p10_f0 := (F101.out.blk 8 rfl).frozen 0
          have p10_f1 := (F101.out.blk 8 rfl).frozen 1
          have p10_f2 := (F101.out.blk 8 rfl).frozen 2
          have p18_f0 := (F101.out.blk 5 rfl).frozen 0
          have p18_f1 := (F101.out.blk 5 rfl).frozen 1
          go_upto_region 24 with fail
          clear p10_0 p10_1 p10_2 p10_lt p18_0 p18_1 p18_lt
          clear p10_f0 p10_f1 p10_f2 p18_f0 p18_f1
          obtain ⟨Z13, hZ13⟩ : ∃ W : World, W = (((u12.setCell ⟨u2.heap.size + 1 + 1 + 1, 0, none⟩ (.string kk)).setCell ⟨u2.heap.size + 1 + 1 + 1, 1, none⟩ (.slice An J.length cn)).setCell ⟨u2.heap.size + 1 + 1 + 1, 2, none⟩ (.slice Bn M.length dn)) := ⟨_, rfl⟩
          rw [← hZ13]
          have hch : Chg (fun k => k = u2.heap.size + 1 + 1 + 1) u12 Z13 := by rw [hZ13]; exact chg_set3 _ _ _ _ _
          have XN : Hid (GR.Blk Z13 (u2.heap.size + 1 + 1 + 1) 27 #[.string kk, .slice An J.length cn, .slice Bn M.length dn]) := Lib.hid (by rw [hZ13]; exact blk_set3 (F101.out.blk 8 rfl))
          have mn13 : u12.heap.size ≤ Z13.heap.size := hch.size
          have BC : Below v0.heap.size u12 Z13 := hch.below BB.out.size (fun k e => by subst e; omega)
          replace BB := Lib.hid (BB.out.trans BC)
          clear hZ13 BC
          have X_ps := Lib.hid (blk_ne (F101.out.blk 12 rfl) hch (by omega))
          have X_px := Lib.hid (blk_ne (F101.out.blk 11 rfl) hch (by omega))
          have X_p8 := Lib.hid (blk_ne (F101.out.blk 10 rfl) hch (by omega))
          have X_p9 := Lib.hid (blk_ne (F101.out.blk 9 rfl) hch (by omega))
          have X_p10 := Lib.hid (XN.out)
          have X_p16 := Lib.hid (blk_ne (F101.out.blk 7 rfl) hch (by omega))
          have X_p17 := Lib.hid (blk_ne (F101.out.blk 6 rfl) hch (by omega))
          have X_p18 := Lib.hid (blk_ne (F101.out.blk 5 rfl) hch (by omega))
          have Y_x := Lib.hid (owns_blk (F101.out.own 4 rfl) (F101.out.blk 8 rfl) hch)
          have Y_q := Lib.hid (owns_blk (F101.out.own 3 rfl) (F101.out.blk 8 rfl) hch)
          have Y_w := Lib.hid (owns_blk (F101.out.own 2 rfl) (F101.out.blk 8 rfl) hch)
          have Y_g := Lib.hid (owns_blk (F101.out.own 1 rfl) (F101.out.blk 8 rfl) hch)
          have Y_n := Lib.hid (owns_blk (F101.out.own 0 rfl) (F101.out.blk 8 rfl) hch)
          have F102 := Lib.hid (HS.nil Z13)
          have F103 := Lib.hid (HS.addB F102.out (g := w.heap.size) (t := 27) (cs := #[.string ko, .slice A a.length c, .slice B l.length d]) (HPO.out.below BB.out HPO.out.lt))
          clear F102
          have F104 := Lib.hid (F103.out.addR (HOI.out.ra.below BB.out))
          clear F103
          have F105 := Lib.hid (F104.out.addR (HOI.out.rl.below BB.out))
          clear F104
          have F106 := Lib.hid (F105.out.addR (HST.out.1.1.below BB.out))
          clear F105
          have F107 := Lib.hid (F106.out.addR (HST.out.2.2.1.below BB.out))
          clear F106
          have F108 := Lib.hid (F107.out.addR (HST.out.2.2.2.1.below BB.out))
          clear F107
          have F109 := Lib.hid (HS.addB F108.out (g := v0.heap.size) (t := 31) (cs := #[.bool false, .slice E x.length xc, .int .u32 act, .string val, .bool gone, .string key, .slice A2 a2.length ac, .slice B2 l2.length lc]) (X_ps.out))
          clear F108
          have F110 := Lib.hid (HS.addB F109.out (g := u2.heap.size) (t := 27) (cs := #[.string ko, .slice (some ⟨g1x, 0, none⟩) a.length h1x, .slice (some ⟨g2x, 0, none⟩) l.length h2x]) (X_px.out))
          clear F109
          have F111 := Lib.hid (HS.addB F110.out (g := u2.heap.size + 1) (t := 27) (cs := #[.string kk, .slice Aw J.length cw, .slice Bw M.length dw]) (X_p8.out))
          clear F110
          have F112 := Lib.hid (HS.addB F111.out (g := u2.heap.size + 1 + 1) (t := 27) (cs := #[.string kk, .slice Ag J.length cg, .slice Bg M.length dg]) (X_p9.out))
          clear F111
          have F113 := Lib.hid (HS.addB F112.out (g := u2.heap.size + 1 + 1 + 1) (t := 27) (cs := #[.string kk, .slice An J.length cn, .slice Bn M.length dn]) (X_p10.out))
          clear F112
          have F114 := Lib.hid (HS.addB F113.out (g := u4.heap.size) (t := 41) (cs := #[.int .u32 D.a, .int .u64 D.n]) (X_p16.out))
          clear F113
          have F115 := Lib.hid (HS.addB F114.out (g := u4.heap.size + 1) (t := 41) (cs := #[.int .u32 D.a, .int .u64 D.n]) (X_p17.out))
          clear F114
          have F116 := Lib.hid (HS.addB F115.out (g := u4.heap.size + 1 + 1) (t := 41) (cs := #[.int .u32 0, .int .u64 0]) (X_p18.out))
          clear F115
          have F117 := Lib.hid (F116.out.addO (Y_x.out))
          clear F116
          have F118 := Lib.hid (F117.out.addO (Y_q.out))
          clear F117
          have F119 := Lib.hid (F118.out.addO (Y_w.out))
          clear F118
          have F120 := Lib.hid (F119.out.addO (Y_g.out))
          clear F119
          have F121 := Lib.hid (F120.out.addO (Y_n.out))
          clear F120
          clear F101 X_ps X_px X_p8 X_p9 X_p10 X_p16 X_p17 X_p18 Y_x Y_q Y_w Y_g Y_n
          clear hch XN
          obtain ⟨Z14, hZ14⟩ : ∃ W : World, W = ((Z13.setCell ⟨u4.heap.size + 1 + 1, 0, none⟩ (.int .u32 D.a)).setCell ⟨u4.heap.size + 1 + 1, 1, none⟩ (.int .u64 D.n)) := ⟨_, rfl⟩
          rw [← hZ14]
          have hch : Chg (fun k => k = u4.heap.size + 1 + 1) Z13 Z14 := by rw [hZ14]; exact chg_set2 _ _ _ _
          have XN : Hid (GR.Blk Z14 (u4.heap.size + 1 + 1) 41 #[.int .u32 D.a, .int .u64 D.n]) := Lib.hid (by rw [hZ14]; exact blk_set2 (F121.out.blk 5 rfl))
          have mn14 : Z13.heap.size ≤ Z14.heap.size := hch.size
          have BC : Below v0.heap.size Z13 Z14 := hch.below BB.out.size (fun k e => by subst e; omega)
          replace BB := Lib.hid (BB.out.trans BC)
          clear hZ14 BC
          have X_ps := Lib.hid (blk_ne (F121.out.blk 12 rfl) hch (by omega))
          have X_px := Lib.hid (blk_ne (F121.out.blk 11 rfl) hch (by omega))
          have X_p8 := Lib.hid (blk_ne (F121.out.blk 10 rfl) hch (by omega))
          have X_p9 := Lib.hid (blk_ne (F121.out.blk 9 rfl) hch (by omega))
          have X_p10 := Lib.hid (blk_ne (F121.out.blk 8 rfl) hch (by omega))
          have X_p16 := Lib.hid (blk_ne (F121.out.blk 7 rfl) hch (by omega))
          have X_p17 := Lib.hid (blk_ne (F121.out.blk 6 rfl) hch (by omega))
          have X_p18 := Lib.hid (XN.out)
          have Y_x := Lib.hid (owns_at (F121.out.own 4 rfl) RG_x.out hch (by omega))
          have Y_q := Lib.hid (owns_at (F121.out.own 3 rfl) RG_q.out hch (by omega))
          have Y_w := Lib.hid (owns_at (F121.out.own 2 rfl) RG_w.out hch (by omega))
          have Y_g := Lib.hid (owns_at (F121.out.own 1 rfl) RG_g.out hch (by omega))
          have Y_n := Lib.hid (owns_at (F121.out.own 0 rfl) RG_n.out hch (by omega))
          have F122 := Lib.hid (HS.nil Z14)
          have F123 := Lib.hid (HS.addB F122.out (g := w.heap.size) (t := 27) (cs := #[.string ko, .slice A a.length c, .slice B l.length d]) (HPO.out.below BB.out HPO.out.lt))
          clear F122
          have F124 := Lib.hid (F123.out.addR (HOI.out.ra.below BB.out))
          clear F123
          have F125 := Lib.hid (F124.out.addR (HOI.out.rl.below BB.out))
          clear F124
          have F126 := Lib.hid (F125.out.addR (HST.out.1.1.below BB.out))
          clear F125
          have F127 := Lib.hid (F126.out.addR (HST.out.2.2.1.below BB.out))
          clear F126
          have F128 := Lib.hid (F127.out.addR (HST.out.2.2.2.1.below BB.out))
          clear F127
          have F129 := Lib.hid (HS.addB F128.out (g := v0.heap.size) (t := 31) (cs := #[.bool false, .slice E x.length xc, .int .u32 act, .string val, .bool gone, .string key, .slice A2 a2.length ac, .slice B2 l2.length lc]) (X_ps.out))
          clear F128
          have F130 := Lib.hid (HS.addB F129.out (g := u2.heap.size) (t := 27) (cs := #[.string ko, .slice (some ⟨g1x, 0, none⟩) a.length h1x, .slice (some ⟨g2x, 0, none⟩) l.length h2x]) (X_px.out))
          clear F129
          have F131 := Lib.hid (HS.addB F130.out (g := u2.heap.size + 1) (t := 27) (cs := #[.string kk, .slice Aw J.length cw, .slice Bw M.length dw]) (X_p8.out))
          clear F130
          have F132 := Lib.hid (HS.addB F131.out (g := u2.heap.size + 1 + 1) (t := 27) (cs := #[.string kk, .slice Ag J.length cg, .slice Bg M.length dg]) (X_p9.out))
          clear F131
          have F133 := Lib.hid (HS.addB F132.out (g := u2.heap.size + 1 + 1 + 1) (t := 27) (cs := #[.string kk, .slice An J.length cn, .slice Bn M.length dn]) (X_p10.out))
          clear F132
          have F134 := Lib.hid (HS.addB F133.out (g := u4.heap.size) (t := 41) (cs := #[.int .u32 D.a, .int .u64 D.n]) (X_p16.out))
          clear F133
          have F135 := Lib.hid (HS.addB F134.out (g := u4.heap.size + 1) (t := 41) (cs := #[.int .u32 D.a, .int .u64 D.n]) (X_p17.out))
          clear F134
          have F136 := Lib.hid (HS.addB F135.out (g := u4.heap.size + 1 + 1) (t := 41) (cs := #[.int .u32 D.a, .int .u64 D.n]) (X_p18.out))
          clear F135
          have F137 := Lib.hid (F136.out.addO (Y_x.out))
          clear F136
          have F138 := Lib.hid (F137.out.addO (Y_q.out))
          clear F137
          have F139 := Lib.hid (F138.out.addO (Y_w.out))
          clear F138
          have F140 := Lib.hid (F139.out.addO (Y_g.out))
          clear F139
          have F141 := Lib.hid (F140.out.addO (Y_n.out))
          clear F140
          clear F121 X_ps X_px X_p8 X_p9 X_p10 X_p16 X_p17 X_p18 Y_x Y_q Y_w Y_g Y_n
          clear hch XN
          have ps_0 : Z14.cell? ⟨v0.heap.size, 0, none⟩ = some (.bool false) := (F141.out.blk 12 rfl).cell 0
          have ps_1 : Z14.cell? ⟨v0.heap.size, 1, none⟩ = some (.slice E x.length xc) := (F141.out.blk 12 rfl).cell 1
          have ps_2 : Z14.cell? ⟨v0.heap.size, 2, none⟩ = some (.int .u32 act) := (F141.out.blk 12 rfl).cell 2
          have ps_3 : Z14.cell? ⟨v0.heap.size, 3, none⟩ = some (.string val) := (F141.out.blk 12 rfl).cell 3
          have ps_4 : Z14.cell? ⟨v0.heap.size, 4, none⟩ = some (.bool gone) := (F141.out.blk 12 rfl).cell 4
          have ps_5 : Z14.cell? ⟨v0.heap.size, 5, none⟩ = some (.string key) := (F141.out.blk 12 rfl).cell 5
          have ps_6 : Z14.cell? ⟨v0.heap.size, 6, none⟩ = some (.slice A2 a2.length ac) := (F141.out.blk 12 rfl).cell 6
          have ps_7 : Z14.cell? ⟨v0.heap.size, 7, none⟩ = some (.slice B2 l2.length lc) := (F141.out.blk 12 rfl).cell 7
          have p16_0 : Z14.cell? ⟨u4.heap.size, 0, none⟩ = some (.int .u32 D.a) := (F141.out.blk 7 rfl).cell 0
          have p16_1 : Z14.cell? ⟨u4.heap.size, 1, none⟩ = some (.int .u64 D.n) := (F141.out.blk 7 rfl).cell 1
          have p17_0 : Z14.cell? ⟨u4.heap.size + 1, 0, none⟩ = some (.int .u32 D.a) := (F141.out.blk 6 rfl).cell 0
          have p17_1 : Z14.cell? ⟨u4.heap.size + 1, 1, none⟩ = some (.int .u64 D.n) := (F141.out.blk 6 rfl).cell 1
          have p18_0 : Z14.cell? ⟨u4.heap.size + 1 + 1, 0, none⟩ = some (.int .u32 D.a) := (F141.out.blk 5 rfl).cell 0
          have p18_1 : Z14.cell? ⟨u4.heap.size + 1 + 1, 1, none⟩ = some (.int .u64 D.n) := (F141.out.blk 5 rfl).cell 1
          have ps_lt : v0.heap.size < Z14.heap.size := (F141.out.blk 12 rfl).lt
          have p16_lt : u4.heap.size < Z14.heap.size := (F141.out.blk 7 rfl).lt
          have p17_lt : u4.heap.size + 1 < Z14.heap.size := (F141.out.blk 6 rfl).lt
          have p18_lt : u4.heap.size + 1 + 1 < Z14.heap.size := (F141.out.blk 5 rfl).lt
          go_wp2_with fail
          clear ps_0 ps_1 ps_2 ps_3 ps_4 ps_5 ps_6 ps_7 ps_lt p16_0 p16_1 p16_lt p17_0 p17_1 p17_lt p18_0 p18_1 p18_lt
          refine (lsameDots_any _ _ _ _ x x _ (rd_take (F141.out.own 3 rfl).d (by show x.length * 16 ≤ _; omega)) (F141.out.rd 15 rfl)).mono ?_
          rintro e u15 ⟨rfl, hdr⟩
          have hb := hdr.below Z14.heap.size
          clear hdr
          have mn15 : Z14.heap.size ≤ u15.heap.size := Below.size hb
          have F142 := Lib.hid (F141.out.below hb)
          clear F141
          replace BB := Lib.hid (bl_then BB.out hb)
          clear hb
          have ps_0 : u15.cell? ⟨v0.heap.size, 0, none⟩ = some (.bool false) := (F142.out.blk 12 rfl).cell 0
          have ps_1 : u15.cell? ⟨v0.heap.size, 1, none⟩ = some (.slice E x.length xc) := (F142.out.blk 12 rfl).cell 1
          have ps_2 : u15.cell? ⟨v0.heap.size, 2, none⟩ = some (.int .u32 act) := (F142.out.blk 12 rfl).cell 2
          have ps_3 : u15.cell? ⟨v0.heap.size, 3, none⟩ = some (.string val) := (F142.out.blk 12 rfl).cell 3
          have ps_4 : u15.cell? ⟨v0.heap.size, 4, none⟩ = some (.bool gone) := (F142.out.blk 12 rfl).cell 4
          have ps_5 : u15.cell? ⟨v0.heap.size, 5, none⟩ = some (.string key) := (F142.out.blk 12 rfl).cell 5
          have ps_6 : u15.cell? ⟨v0.heap.size, 6, none⟩ = some (.slice A2 a2.length ac) := (F142.out.blk 12 rfl).cell 6
          have ps_7 : u15.cell? ⟨v0.heap.size, 7, none⟩ = some (.slice B2 l2.length lc) := (F142.out.blk 12 rfl).cell 7
          have ps_lt : v0.heap.size < u15.heap.size := (F142.out.blk 12 rfl).lt
          have xq : u15.cell? ⟨gq, x.length * 2 + 1, none⟩ = some (.int .u64 1125899906842624) := (GR.Own.cells (F142.out.own 3 rfl).d x.length (by simp) 1 (.int .u64 1125899906842624) (by simp [dotK, mkD])).1
          go_wp2
          clear xq
          clear ps_0 ps_1 ps_2 ps_3 ps_4 ps_5 ps_6 ps_7 ps_lt
          have OQ := Lib.hid ((F142.out.own 3 rfl).d)
          go_loopw [20] (fun i w' => ∃ (j : Nat) (x' : List Dot), j ≤ x.length + 1 ∧ i = .int .i64 j ∧ Hid (x'.length = x.length + 1) ∧ Hid (GR.Own dotK w' _ (.slice (some ⟨gq, 0, none⟩) (x.length + 1) hq) x') ∧ Hid (Chg (fun k => k = gq) u15 w')) (fun i _ => x.length + 1 - (intOf i).toNat)
          case atStart => exact ⟨0, x ++ [mkD], Nat.zero_le _, rfl, Lib.hid (by simp), OQ, Lib.hid (Chg.refl _ _)⟩
          case round =>
            clear OQ
            obtain ⟨j, x', hj, rfl, hx', hoq, hcq⟩ := hrel
            obtain ⟨v1, hv1⟩ : ∃ z : World, z = wr := ⟨_, rfl⟩
            subst hv1
            by_cases hjl : j < x.length + 1
            · skip
              have hcell := GR.Own.cells hoq.out j (by rw [hx'.out]; exact hjl)
              obtain ⟨z0, f0⟩ := hcell 0 _ rfl
              obtain ⟨z1, f1⟩ := hcell 1 _ rfl
              replace z0 : v1.cell? ⟨gq, j * 2, none⟩ = some _ := z0
              replace z1 : v1.cell? ⟨gq, j * 2 + 1, none⟩ = some _ := z1
              replace f0 : v1.frozen? ⟨gq, j * 2, none⟩ = false := f0
              replace f1 : v1.frozen? ⟨gq, j * 2 + 1, none⟩ = false := f1
              have k0 : (0 : Int) ≤ (j : Int) := by omega
              have k1 : (j : Int) < (x.length : Int) + 1 := by omega
              have k2 : decide ((j : Int) < (x.length : Int) + 1) = true := decide_eq_true k1
              clear hcell
              go_wp2
              go_roundw
              case rel => exact ⟨j + 1, _, by omega, by go_num, Lib.hid (by rw [List.length_set]; exact hx'.out), Lib.hid (ownd_set hoq.out j (by rw [hx'.out]; exact hjl) 6 4503599627370496), Lib.hid ((hcq.out.then (chg_set _ _ (.inl rfl))).then (chg_set _ _ (.inl rfl)))⟩
              case measure => simp [intOf]; omega
            · have hje : j = x.length + 1 := by omega
              have k2 : decide ((j : Int) < (x.length : Int) + 1) = false := decide_eq_false (by omega)
              have k3 : ¬ ((j : Int) < (x.length : Int) + 1) := by omega
              have hch : Chg (rows2 (.slice (some ⟨gq, 0, none⟩) (x.length + 1) hq) (.slice none 0 0)) u15 v1 := chg_one hcq.out (.inl rfl)
              clear hoq hx' hj hje
              have mn16 : u15.heap.size ≤ v1.heap.size := hch.size
              have BC : Below v0.heap.size u15 v1 := hch.below BB.out.size (fun k hk => Nat.le_trans (by omega) (RG_q.out k hk).1)
              replace BB := Lib.hid (BB.out.trans BC)
              clear BC
              have X_ps := Lib.hid (blk_farT (F142.out.blk 12 rfl) (F142.out.own 3 rfl) hch)
              have X_px := Lib.hid (blk_farT (F142.out.blk 11 rfl) (F142.out.own 3 rfl) hch)
              have X_p8 := Lib.hid (blk_farT (F142.out.blk 10 rfl) (F142.out.own 3 rfl) hch)
              have X_p9 := Lib.hid (blk_farT (F142.out.blk 9 rfl) (F142.out.own 3 rfl) hch)
              have X_p10 := Lib.hid (blk_farT (F142.out.blk 8 rfl) (F142.out.own 3 rfl) hch)
              have X_p16 := Lib.hid (blk_chg (F142.out.blk 7 rfl) hch (fun hr => by have := RG_q.out _ hr; omega))
              have X_p17 := Lib.hid (blk_chg (F142.out.blk 6 rfl) hch (fun hr => by have := RG_q.out _ hr; omega))
              have X_p18 := Lib.hid (blk_chg (F142.out.blk 5 rfl) hch (fun hr => by have := RG_q.out _ hr; omega))
              have Y_x := Lib.hid (owns_apart (F142.out.own 4 rfl) hch RG_x.out (fun k hk => RG_q.out k hk) (by omega))
              have Y_w := Lib.hid (owns_apart (F142.out.own 2 rfl) hch RG_w.out (fun k hk => RG_q.out k hk) (by omega))
              have Y_g := Lib.hid (owns_apart (F142.out.own 1 rfl) hch RG_g.out (fun k hk => RG_q.out k hk) (by omega))
              have Y_n := Lib.hid (owns_apart (F142.out.own 0 rfl) hch RG_n.out (fun k hk => RG_q.out k hk) (by omega))
              have F143 := Lib.hid (HS.nil v1)
              have F144 := Lib.hid (HS.addB F143.out (g := w.heap.size) (t := 27) (cs := #[.string ko, .slice A a.length c, .slice B l.length d]) (HPO.out.below BB.out HPO.out.lt))
              clear F143
              have F145 := Lib.hid (F144.out.addR (HOI.out.ra.below BB.out))
              clear F144
              have F146 := Lib.hid (F145.out.addR (HOI.out.rl.below BB.out))
              clear F145
              have F147 := Lib.hid (F146.out.addR (HST.out.1.1.below BB.out))
              clear F146
              have F148 := Lib.hid (F147.out.addR (HST.out.2.2.1.below BB.out))
              clear F147
              have F149 := Lib.hid (F148.out.addR (HST.out.2.2.2.1.below BB.out))
              clear F148
              have F150 := Lib.hid (HS.addB F149.out (g := v0.heap.size) (t := 31) (cs := #[.bool false, .slice E x.length xc, .int .u32 act, .string val, .bool gone, .string key, .slice A2 a2.length ac, .slice B2 l2.length lc]) (X_ps.out))
              clear F149
              have F151 := Lib.hid (HS.addB F150.out (g := u2.heap.size) (t := 27) (cs := #[.string ko, .slice (some ⟨g1x, 0, none⟩) a.length h1x, .slice (some ⟨g2x, 0, none⟩) l.length h2x]) (X_px.out))
              clear F150
              have F152 := Lib.hid (HS.addB F151.out (g := u2.heap.size + 1) (t := 27) (cs := #[.string kk, .slice Aw J.length cw, .slice Bw M.length dw]) (X_p8.out))
              clear F151
              have F153 := Lib.hid (HS.addB F152.out (g := u2.heap.size + 1 + 1) (t := 27) (cs := #[.string kk, .slice Ag J.length cg, .slice Bg M.length dg]) (X_p9.out))
              clear F152
              have F154 := Lib.hid (HS.addB F153.out (g := u2.heap.size + 1 + 1 + 1) (t := 27) (cs := #[.string kk, .slice An J.length cn, .slice Bn M.length dn]) (X_p10.out))
              clear F153
              have F155 := Lib.hid (HS.addB F154.out (g := u4.heap.size) (t := 41) (cs := #[.int .u32 D.a, .int .u64 D.n]) (X_p16.out))
              clear F154
              have F156 := Lib.hid (HS.addB F155.out (g := u4.heap.size + 1) (t := 41) (cs := #[.int .u32 D.a, .int .u64 D.n]) (X_p17.out))
              clear F155
              have F157 := Lib.hid (HS.addB F156.out (g := u4.heap.size + 1 + 1) (t := 41) (cs := #[.int .u32 D.a, .int .u64 D.n]) (X_p18.out))
              clear F156
              have F158 := Lib.hid (F157.out.addO (Y_x.out))
              clear F157
              have F159 := Lib.hid (F158.out.addO (Y_w.out))
              clear F158
              have F160 := Lib.hid (F159.out.addO (Y_g.out))
              clear F159
              have F161 := Lib.hid (F160.out.addO (Y_n.out))
              clear F160
              clear F142 X_ps X_px X_p8 X_p9 X_p10 X_p16 X_p17 X_p18 Y_x Y_w Y_g Y_n
              clear hch hcq
              have p9_0 : v1.cell? ⟨u2.heap.size + 1 + 1, 0, none⟩ = some (.string kk) := (F161.out.blk 8 rfl).cell 0
              have p9_1 : v1.cell? ⟨u2.heap.size + 1 + 1, 1, none⟩ = some (.slice Ag J.length cg) := (F161.out.blk 8 rfl).cell 1
              have p9_2 : v1.cell? ⟨u2.heap.size + 1 + 1, 2, none⟩ = some (.slice Bg M.length dg) := (F161.out.blk 8 rfl).cell 2
              have p8_0 : v1.cell? ⟨u2.heap.size + 1, 0, none⟩ = some (.string kk) := (F161.out.blk 9 rfl).cell 0
              have p8_1 : v1.cell? ⟨u2.heap.size + 1, 1, none⟩ = some (.slice Aw J.length cw) := (F161.out.blk 9 rfl).cell 1
              have p8_2 : v1.cell? ⟨u2.heap.size + 1, 2, none⟩ = some (.slice Bw M.length dw) := (F161.out.blk 9 rfl).cell 2
              have p9_lt : u2.heap.size + 1 + 1 < v1.heap.size := (F161.out.blk 8 rfl).lt
              have p8_lt : u2.heap.size + 1 < v1.heap.size := (F161.out.blk 9 rfl).lt
              go_wp2_with fail
              clear p9_0 p9_1 p9_2 p9_lt p8_0 p8_1 p8_2 p8_lt
              refine (lsameq true ((F161.out.own 1 rfl).d.rd jj).2.2 ((F161.out.own 1 rfl).s.rd jm).2.2 ((F161.out.own 2 rfl).d.rd jj).2.2 ((F161.out.own 2 rfl).s.rd jm).2.2 rfl rfl rfl rfl (okself _ _ _)).mono ?_
              rintro e u16 ⟨rfl, hb⟩
              have mn17 : v1.heap.size ≤ u16.heap.size := Below.size hb
              have F162 := Lib.hid (F161.out.below hb)
              clear F161
              replace BB := Lib.hid (bl_then BB.out hb)
              clear hb
              have p10_0 : u16.cell? ⟨u2.heap.size + 1 + 1 + 1, 0, none⟩ = some (.string kk) := (F162.out.blk 7 rfl).cell 0
              have p10_1 : u16.cell? ⟨u2.heap.size + 1 + 1 + 1, 1, none⟩ = some (.slice An J.length cn) := (F162.out.blk 7 rfl).cell 1
              have p10_2 : u16.cell? ⟨u2.heap.size + 1 + 1 + 1, 2, none⟩ = some (.slice Bn M.length dn) := (F162.out.blk 7 rfl).cell 2
              have p8_0 : u16.cell? ⟨u2.heap.size + 1, 0, none⟩ = some (.string kk) := (F162.out.blk 9 rfl).cell 0
              have p8_1 : u16.cell? ⟨u2.heap.size + 1, 1, none⟩ = some (.slice Aw J.length cw) := (F162.out.blk 9 rfl).cell 1
              have p8_2 : u16.cell? ⟨u2.heap.size + 1, 2, none⟩ = some (.slice Bw M.length dw) := (F162.out.blk 9 rfl).cell 2
              have p10_lt : u2.heap.size + 1 + 1 + 1 < u16.heap.size := (F162.out.blk 7 rfl).lt
              have p8_lt : u2.heap.size + 1 < u16.heap.size := (F162.out.blk 9 rfl).lt
              go_wp2_with fail
              clear p10_0 p10_1 p10_2 p10_lt p8_0 p8_1 p8_2 p8_lt
              refine (lsameq true ((F162.out.own 0 rfl).d.rd jj).2.2 ((F162.out.own 0 rfl).s.rd jm).2.2 ((F162.out.own 2 rfl).d.rd jj).2.2 ((F162.out.own 2 rfl).s.rd jm).2.2 rfl rfl rfl rfl (okself _ _ _)).mono ?_
              rintro e u17 ⟨rfl, hb⟩
              have mn18 : u16.heap.size ≤ u17.heap.size := Below.size hb
              have F163 := Lib.hid (F162.out.below hb)
              clear F162
              replace BB := Lib.hid (bl_then BB.out hb)
              clear hb
              have px_0 : u17.cell? ⟨u2.heap.size, 0, none⟩ = some (.string ko) := (F163.out.blk 10 rfl).cell 0
              have px_1 : u17.cell? ⟨u2.heap.size, 1, none⟩ = some (.slice (some ⟨g1x, 0, none⟩) a.length h1x) := (F163.out.blk 10 rfl).cell 1
              have px_2 : u17.cell? ⟨u2.heap.size, 2, none⟩ = some (.slice (some ⟨g2x, 0, none⟩) l.length h2x) := (F163.out.blk 10 rfl).cell 2
              have po_0 : u17.cell? ⟨w.heap.size, 0, none⟩ = some (.string ko) := (F163.out.blk 17 rfl).cell 0
              have po_1 : u17.cell? ⟨w.heap.size, 1, none⟩ = some (.slice A a.length c) := (F163.out.blk 17 rfl).cell 1
              have po_2 : u17.cell? ⟨w.heap.size, 2, none⟩ = some (.slice B l.length d) := (F163.out.blk 17 rfl).cell 2
              have px_lt : u2.heap.size < u17.heap.size := (F163.out.blk 10 rfl).lt
              have po_lt : w.heap.size < u17.heap.size := (F163.out.blk 17 rfl).lt
              go_wp2_with fail
              clear px_0 px_1 px_2 px_lt po_0 po_1 po_2 po_lt
              refine (kept_any _ ko g1x g2x h1x h2x A B c d a l _ (F163.out.own 3 rfl) (F163.out.rd 16 rfl) (F163.out.rd 15 rfl) sa sl).mono ?_
              rintro e u18 ⟨rfl, hb⟩
              have mn19 : u17.heap.size ≤ u18.heap.size := Below.size hb
              have F164 := Lib.hid (F163.out.below hb)
              clear F163
              replace BB := Lib.hid (bl_then BB.out hb)
              clear hb
              have p9_0 : u18.cell? ⟨u2.heap.size + 1 + 1, 0, none⟩ = some (.string kk) := (F164.out.blk 8 rfl).cell 0
              have p9_1 : u18.cell? ⟨u2.heap.size + 1 + 1, 1, none⟩ = some (.slice Ag J.length cg) := (F164.out.blk 8 rfl).cell 1
              have p9_2 : u18.cell? ⟨u2.heap.size + 1 + 1, 2, none⟩ = some (.slice Bg M.length dg) := (F164.out.blk 8 rfl).cell 2
              have p9_lt : u2.heap.size + 1 + 1 < u18.heap.size := (F164.out.blk 8 rfl).lt
              go_wp2_with fail
              clear p9_0 p9_1 p9_2 p9_lt
              refine (lspoil_any _ kk _ _ _ J M _ (F164.out.own 1 rfl) (by omega) jj2 jm2).mono ?_
              rintro e u19 ⟨⟨r19, rfl, hr40⟩, hch⟩
              have r40 : decide (r19 < 40) = false := decide_eq_false (by omega)
              have mn20 : u18.heap.size ≤ u19.heap.size := hch.size
              have BC : Below v0.heap.size u18 u19 := hch.below BB.out.size (fun k hk => Nat.le_trans (by omega) (RG_g.out k hk).1)
              replace BB := Lib.hid (BB.out.trans BC)
              clear BC
              have X_ps := Lib.hid (blk_farT (F164.out.blk 11 rfl) (F164.out.own 1 rfl) hch)
              have X_px := Lib.hid (blk_farT (F164.out.blk 10 rfl) (F164.out.own 1 rfl) hch)
              have X_p8 := Lib.hid (blk_farT (F164.out.blk 9 rfl) (F164.out.own 1 rfl) hch)
              have X_p9 := Lib.hid (blk_farT (F164.out.blk 8 rfl) (F164.out.own 1 rfl) hch)
              have X_p10 := Lib.hid (blk_farT (F164.out.blk 7 rfl) (F164.out.own 1 rfl) hch)
              have X_p16 := Lib.hid (blk_chg (F164.out.blk 6 rfl) hch (fun hr => by have := RG_g.out _ hr; omega))
              have X_p17 := Lib.hid (blk_chg (F164.out.blk 5 rfl) hch (fun hr => by have := RG_g.out _ hr; omega))
              have X_p18 := Lib.hid (blk_chg (F164.out.blk 4 rfl) hch (fun hr => by have := RG_g.out _ hr; omega))
              have Y_x := Lib.hid (owns_apart (F164.out.own 3 rfl) hch RG_x.out (fun k hk => RG_g.out k hk) (by omega))
              have Y_w := Lib.hid (owns_apart (F164.out.own 2 rfl) hch RG_w.out (fun k hk => RG_g.out k hk) (by omega))
              have Y_n := Lib.hid (owns_apart (F164.out.own 0 rfl) hch RG_n.out (fun k hk => RG_g.out k hk) (by omega))
              have F165 := Lib.hid (HS.nil u19)
              have F166 := Lib.hid (HS.addB F165.out (g := w.heap.size) (t := 27) (cs := #[.string ko, .slice A a.length c, .slice B l.length d]) (HPO.out.below BB.out HPO.out.lt))
              clear F165
              have F167 := Lib.hid (F166.out.addR (HOI.out.ra.below BB.out))
              clear F166
              have F168 := Lib.hid (F167.out.addR (HOI.out.rl.below BB.out))
              clear F167
              have F169 := Lib.hid (F168.out.addR (HST.out.1.1.below BB.out))
              clear F168
              have F170 := Lib.hid (F169.out.addR (HST.out.2.2.1.below BB.out))
              clear F169
              have F171 := Lib.hid (F170.out.addR (HST.out.2.2.2.1.below BB.out))
              clear F170
              have F172 := Lib.hid (HS.addB F171.out (g := v0.heap.size) (t := 31) (cs := #[.bool false, .slice E x.length xc, .int .u32 act, .string val, .bool gone, .string key, .slice A2 a2.length ac, .slice B2 l2.length lc]) (X_ps.out))
              clear F171
              have F173 := Lib.hid (HS.addB F172.out (g := u2.heap.size) (t := 27) (cs := #[.string ko, .slice (some ⟨g1x, 0, none⟩) a.length h1x, .slice (some ⟨g2x, 0, none⟩) l.length h2x]) (X_px.out))
              clear F172
              have F174 := Lib.hid (HS.addB F173.out (g := u2.heap.size + 1) (t := 27) (cs := #[.string kk, .slice Aw J.length cw, .slice Bw M.length dw]) (X_p8.out))
              clear F173
              have F175 := Lib.hid (HS.addB F174.out (g := u2.heap.size + 1 + 1) (t := 27) (cs := #[.string kk, .slice Ag J.length cg, .slice Bg M.length dg]) (X_p9.out))
              clear F174
              have F176 := Lib.hid (HS.addB F175.out (g := u2.heap.size + 1 + 1 + 1) (t := 27) (cs := #[.string kk, .slice An J.length cn, .slice Bn M.length dn]) (X_p10.out))
              clear F175
              have F177 := Lib.hid (HS.addB F176.out (g := u4.heap.size) (t := 41) (cs := #[.int .u32 D.a, .int .u64 D.n]) (X_p16.out))
              clear F176
              have F178 := Lib.hid (HS.addB F177.out (g := u4.heap.size + 1) (t := 41) (cs := #[.int .u32 D.a, .int .u64 D.n]) (X_p17.out))
              clear F177
              have F179 := Lib.hid (HS.addB F178.out (g := u4.heap.size + 1 + 1) (t := 41) (cs := #[.int .u32 D.a, .int .u64 D.n]) (X_p18.out))
              clear F178
              have F180 := Lib.hid (F179.out.addO (Y_x.out))
              clear F179
              have F181 := Lib.hid (F180.out.addO (Y_w.out))
              clear F180
              have F182 := Lib.hid (F181.out.addO (Y_n.out))
              clear F181
              clear F164 X_ps X_px X_p8 X_p9 X_p10 X_p16 X_p17 X_p18 Y_x Y_w Y_n
              clear hch hr40
              have p10_0 : u19.cell? ⟨u2.heap.size + 1 + 1 + 1, 0, none⟩ = some (.string kk) := (F182.out.blk 6 rfl).cell 0
              have p10_1 : u19.cell? ⟨u2.heap.size + 1 + 1 + 1, 1, none⟩ = some (.slice An J.length cn) := (F182.out.blk 6 rfl).cell 1
              have p10_2 : u19.cell? ⟨u2.heap.size + 1 + 1 + 1, 2, none⟩ = some (.slice Bn M.length dn) := (F182.out.blk 6 rfl).cell 2
              have p8_0 : u19.cell? ⟨u2.heap.size + 1, 0, none⟩ = some (.string kk) := (F182.out.blk 8 rfl).cell 0
              have p8_1 : u19.cell? ⟨u2.heap.size + 1, 1, none⟩ = some (.slice Aw J.length cw) := (F182.out.blk 8 rfl).cell 1
              have p8_2 : u19.cell? ⟨u2.heap.size + 1, 2, none⟩ = some (.slice Bw M.length dw) := (F182.out.blk 8 rfl).cell 2
              have p10_lt : u2.heap.size + 1 + 1 + 1 < u19.heap.size := (F182.out.blk 6 rfl).lt
              have p8_lt : u2.heap.size + 1 < u19.heap.size := (F182.out.blk 8 rfl).lt
              go_wp2_with fail
              clear p10_0 p10_1 p10_2 p10_lt p8_0 p8_1 p8_2 p8_lt
              refine (lsameq true ((F182.out.own 0 rfl).d.rd jj).2.2 ((F182.out.own 0 rfl).s.rd jm).2.2 ((F182.out.own 1 rfl).d.rd jj).2.2 ((F182.out.own 1 rfl).s.rd jm).2.2 rfl rfl rfl rfl (okself _ _ _)).mono ?_
              rintro e u20 ⟨rfl, hb⟩
              have mn21 : u19.heap.size ≤ u20.heap.size := Below.size hb
              have F183 := Lib.hid (F182.out.below hb)
              clear F182
              replace BB := Lib.hid (bl_then BB.out hb)
              clear hb
              have px_0 : u20.cell? ⟨u2.heap.size, 0, none⟩ = some (.string ko) := (F183.out.blk 9 rfl).cell 0
              have px_1 : u20.cell? ⟨u2.heap.size, 1, none⟩ = some (.slice (some ⟨g1x, 0, none⟩) a.length h1x) := (F183.out.blk 9 rfl).cell 1
              have px_2 : u20.cell? ⟨u2.heap.size, 2, none⟩ = some (.slice (some ⟨g2x, 0, none⟩) l.length h2x) := (F183.out.blk 9 rfl).cell 2
              have po_0 : u20.cell? ⟨w.heap.size, 0, none⟩ = some (.string ko) := (F183.out.blk 16 rfl).cell 0
              have po_1 : u20.cell? ⟨w.heap.size, 1, none⟩ = some (.slice A a.length c) := (F183.out.blk 16 rfl).cell 1
              have po_2 : u20.cell? ⟨w.heap.size, 2, none⟩ = some (.slice B l.length d) := (F183.out.blk 16 rfl).cell 2
              have px_lt : u2.heap.size < u20.heap.size := (F183.out.blk 9 rfl).lt
              have po_lt : w.heap.size < u20.heap.size := (F183.out.blk 16 rfl).lt
              go_wp2_with fail
              clear px_0 px_1 px_2 px_lt po_0 po_1 po_2 po_lt
              refine (kept_any _ ko g1x g2x h1x h2x A B c d a l _ (F183.out.own 2 rfl) (F183.out.rd 15 rfl) (F183.out.rd 14 rfl) sa sl).mono ?_
              rintro e u21 ⟨rfl, hb⟩
              have mn22 : u20.heap.size ≤ u21.heap.size := Below.size hb
              have F184 := Lib.hid (F183.out.below hb)
              clear F183
              replace BB := Lib.hid (bl_then BB.out hb)
              clear hb
              have ps_0 : u21.cell? ⟨v0.heap.size, 0, none⟩ = some (.bool false) := (F184.out.blk 10 rfl).cell 0
              have ps_1 : u21.cell? ⟨v0.heap.size, 1, none⟩ = some (.slice E x.length xc) := (F184.out.blk 10 rfl).cell 1
              have ps_2 : u21.cell? ⟨v0.heap.size, 2, none⟩ = some (.int .u32 act) := (F184.out.blk 10 rfl).cell 2
              have ps_3 : u21.cell? ⟨v0.heap.size, 3, none⟩ = some (.string val) := (F184.out.blk 10 rfl).cell 3
              have ps_4 : u21.cell? ⟨v0.heap.size, 4, none⟩ = some (.bool gone) := (F184.out.blk 10 rfl).cell 4
              have ps_5 : u21.cell? ⟨v0.heap.size, 5, none⟩ = some (.string key) := (F184.out.blk 10 rfl).cell 5
              have ps_6 : u21.cell? ⟨v0.heap.size, 6, none⟩ = some (.slice A2 a2.length ac) := (F184.out.blk 10 rfl).cell 6
              have ps_7 : u21.cell? ⟨v0.heap.size, 7, none⟩ = some (.slice B2 l2.length lc) := (F184.out.blk 10 rfl).cell 7
              have px_0 : u21.cell? ⟨u2.heap.size, 0, none⟩ = some (.string ko) := (F184.out.blk 9 rfl).cell 0
              have px_1 : u21.cell? ⟨u2.heap.size, 1, none⟩ = some (.slice (some ⟨g1x, 0, none⟩) a.length h1x) := (F184.out.blk 9 rfl).cell 1
              have px_2 : u21.cell? ⟨u2.heap.size, 2, none⟩ = some (.slice (some ⟨g2x, 0, none⟩) l.length h2x) := (F184.out.blk 9 rfl).cell 2
              have ps_lt : v0.heap.size < u21.heap.size := (F184.out.blk 10 rfl).lt
              have px_lt : u2.heap.size < u21.heap.size := (F184.out.blk 9 rfl).lt
              go_wp2_with fail
              clear ps_0 ps_1 ps_2 ps_3 ps_4 ps_5 ps_6 ps_7 ps_lt px_0 px_1 px_2 px_lt
              refine (turned_any _ ko g1x g2x _ _ _ _ h1x h2x a _ l _ _ (F184.out.own 2 rfl) sa sl (fun x hx => Nat.le_trans (HOI.out.vs x hx) (by omega))).mono ?_
              rintro e u22 ⟨rfl, hot, hch⟩
              rw [HTA.out, HTL.out] at hot
              have mn23 : u21.heap.size ≤ u22.heap.size := hch.size
              have BC : Below v0.heap.size u21 u22 := hch.below BB.out.size (fun k hk => Nat.le_trans (by omega) (RG_x.out k hk).1)
              replace BB := Lib.hid (BB.out.trans BC)
              clear BC
              have X_ps := Lib.hid (blk_farT (F184.out.blk 10 rfl) (F184.out.own 2 rfl) hch)
              have X_px := Lib.hid (blk_farT (F184.out.blk 9 rfl) (F184.out.own 2 rfl) hch)
              have X_p8 := Lib.hid (blk_farT (F184.out.blk 8 rfl) (F184.out.own 2 rfl) hch)
              have X_p9 := Lib.hid (blk_farT (F184.out.blk 7 rfl) (F184.out.own 2 rfl) hch)
              have X_p10 := Lib.hid (blk_farT (F184.out.blk 6 rfl) (F184.out.own 2 rfl) hch)
              have X_p16 := Lib.hid (blk_chg (F184.out.blk 5 rfl) hch (fun hr => by have := RG_x.out _ hr; omega))
              have X_p17 := Lib.hid (blk_chg (F184.out.blk 4 rfl) hch (fun hr => by have := RG_x.out _ hr; omega))
              have X_p18 := Lib.hid (blk_chg (F184.out.blk 3 rfl) hch (fun hr => by have := RG_x.out _ hr; omega))
              have Y_w := Lib.hid (owns_apart (F184.out.own 1 rfl) hch RG_w.out (fun k hk => RG_x.out k hk) (by omega))
              have Y_n := Lib.hid (owns_apart (F184.out.own 0 rfl) hch RG_n.out (fun k hk => RG_x.out k hk) (by omega))
              have F185 := Lib.hid (HS.nil u22)
              have F186 := Lib.hid (HS.addB F185.out (g := w.heap.size) (t := 27) (cs := #[.string ko, .slice A a.length c, .slice B l.length d]) (HPO.out.below BB.out HPO.out.lt))
              clear F185
              have F187 := Lib.hid (F186.out.addR (HOI.out.ra.below BB.out))
              clear F186
              have F188 := Lib.hid (F187.out.addR (HOI.out.rl.below BB.out))
              clear F187
              have F189 := Lib.hid (F188.out.addR (HST.out.1.1.below BB.out))
              clear F188
              have F190 := Lib.hid (F189.out.addR (HST.out.2.2.1.below BB.out))
              clear F189
              have F191 := Lib.hid (F190.out.addR (HST.out.2.2.2.1.below BB.out))
              clear F190
              have F192 := Lib.hid (HS.addB F191.out (g := v0.heap.size) (t := 31) (cs := #[.bool false, .slice E x.length xc, .int .u32 act, .string val, .bool gone, .string key, .slice A2 a2.length ac, .slice B2 l2.length lc]) (X_ps.out))
              clear F191
              have F193 := Lib.hid (HS.addB F192.out (g := u2.heap.size) (t := 27) (cs := #[.string ko, .slice (some ⟨g1x, 0, none⟩) a.length h1x, .slice (some ⟨g2x, 0, none⟩) l.length h2x]) (X_px.out))
              clear F192
              have F194 := Lib.hid (HS.addB F193.out (g := u2.heap.size + 1) (t := 27) (cs := #[.string kk, .slice Aw J.length cw, .slice Bw M.length dw]) (X_p8.out))
              clear F193
              have F195 := Lib.hid (HS.addB F194.out (g := u2.heap.size + 1 + 1) (t := 27) (cs := #[.string kk, .slice Ag J.length cg, .slice Bg M.length dg]) (X_p9.out))
              clear F194
              have F196 := Lib.hid (HS.addB F195.out (g := u2.heap.size + 1 + 1 + 1) (t := 27) (cs := #[.string kk, .slice An J.length cn, .slice Bn M.length dn]) (X_p10.out))
              clear F195
              have F197 := Lib.hid (HS.addB F196.out (g := u4.heap.size) (t := 41) (cs := #[.int .u32 D.a, .int .u64 D.n]) (X_p16.out))
              clear F196
              have F198 := Lib.hid (HS.addB F197.out (g := u4.heap.size + 1) (t := 41) (cs := #[.int .u32 D.a, .int .u64 D.n]) (X_p17.out))
              clear F197
              have F199 := Lib.hid (HS.addB F198.out (g := u4.heap.size + 1 + 1) (t := 41) (cs := #[.int .u32 D.a, .int .u64 D.n]) (X_p18.out))
              clear F198
              have F200 := Lib.hid (F199.out.addO (Y_w.out))
              clear F199
              have F201 := Lib.hid (F200.out.addO (Y_n.out))
              clear F200
              have F202 := Lib.hid (F201.out.addO (hot))
              clear F201
              clear F184 X_ps X_px X_p8 X_p9 X_p10 X_p16 X_p17 X_p18 Y_w Y_n
              clear hch hot
              have po_0 : u22.cell? ⟨w.heap.size, 0, none⟩ = some (.string ko) := (F202.out.blk 16 rfl).cell 0
              have po_1 : u22.cell? ⟨w.heap.size, 1, none⟩ = some (.slice A a.length c) := (F202.out.blk 16 rfl).cell 1
              have po_2 : u22.cell? ⟨w.heap.size, 2, none⟩ = some (.slice B l.length d) := (F202.out.blk 16 rfl).cell 2
              have po_lt : w.heap.size < u22.heap.size := (F202.out.blk 16 rfl).lt
              go_wp2_with fail
              clear po_0 po_1 po_2 po_lt
              refine (obTwin_any ko A B c d a l _ (F202.out.rd 15 rfl) (F202.out.rd 14 rfl) sa sl).mono ?_
              rintro e u23 ⟨g1z, h1z, g2z, h2z, rfl, ho, hb⟩
              have RG_z := Lib.hid (rows2_rng ho)
              have mn24 : u22.heap.size ≤ u23.heap.size := Below.size hb
              have F203 := Lib.hid (F202.out.below hb)
              clear F202
              have F204 := Lib.hid (F203.out.addO (ho))
              clear F203
              replace BB := Lib.hid (bl_then BB.out hb)
              clear hb
              clear ho
              go_upto_region 38 with fail
              obtain ⟨Z24, hZ24⟩ : ∃ W : World, W = u23.alloc (.cells #[.string ko, .slice (some ⟨g1z, 0, none⟩) a.length h1z, .slice (some ⟨g2z, 0, none⟩) l.length h2z] 27) := ⟨_, rfl⟩
              rw [← hZ24]
              have LL : Hid (Below u23.heap.size u23 Z24) := Lib.hid (by rw [hZ24]; exact (by repeat (first | exact Below.refl _ _ | refine bl_drewN ?_ _ | refine bl_drew ?_ | refine bl_alloc ?_ _)))
              have X_pz : Hid (GR.Blk Z24 (u23.heap.size) 27 #[.string ko, .slice (some ⟨g1z, 0, none⟩) a.length h1z, .slice (some ⟨g2z, 0, none⟩) l.length h2z]) := Lib.hid (by rw [hZ24]; exact GR.Blk.new _ _ _)
              have mn25 : u23.heap.size + 1 ≤ Z24.heap.size := by rw [hZ24]; simp; try omega
              clear hZ24
              have F205 := Lib.hid (F204.out.below LL.out)
              clear F204
              have F206 := Lib.hid (HS.addB F205.out (g := u23.heap.size) (t := 27) (cs := #[.string ko, .slice (some ⟨g1z, 0, none⟩) a.length h1z, .slice (some ⟨g2z, 0, none⟩) l.length h2z]) (X_pz.out))
              clear F205
              clear X_pz
              replace BB := Lib.hid (bl_then BB.out LL.out)
              clear LL
              have pz_0 : Z24.cell? ⟨u23.heap.size, 0, none⟩ = some (.string ko) := (F206.out.blk 0 rfl).cell 0
              have pz_1 : Z24.cell? ⟨u23.heap.size, 1, none⟩ = some (.slice (some ⟨g1z, 0, none⟩) a.length h1z) := (F206.out.blk 0 rfl).cell 1
              have pz_2 : Z24.cell? ⟨u23.heap.size, 2, none⟩ = some (.slice (some ⟨g2z, 0, none⟩) l.length h2z) := (F206.out.blk 0 rfl).cell 2
              have pz_lt : u23.heap.size < Z24.heap.size := (F206.out.blk 0 rfl).lt
              go_wp2_with fail
              clear pz_0 pz_1 pz_2 pz_lt
              refine (turned_any _ ko g1z g2z _ _ _ _ h1z h2z a _ l _ _ (F206.out.own 1 rfl) sa sl (fun x hx => Nat.le_trans (HOI.out.vs x hx) (by omega))).mono ?_
              rintro e u25 ⟨rfl, hot, hch⟩
              rw [HTA.out, HTL.out] at hot
              have mn26 : Z24.heap.size ≤ u25.heap.size := hch.size
              have BC : Below v0.heap.size Z24 u25 := hch.below BB.out.size (fun k hk => Nat.le_trans (by omega) (RG_z.out k hk).1)
              replace BB := Lib.hid (BB.out.trans BC)
              clear BC
              have X_ps := Lib.hid (blk_farT (F206.out.blk 12 rfl) (F206.out.own 1 rfl) hch)
              have X_px := Lib.hid (blk_farT (F206.out.blk 11 rfl) (F206.out.own 1 rfl) hch)
              have X_p8 := Lib.hid (blk_farT (F206.out.blk 10 rfl) (F206.out.own 1 rfl) hch)
              have X_p9 := Lib.hid (blk_farT (F206.out.blk 9 rfl) (F206.out.own 1 rfl) hch)
              have X_p10 := Lib.hid (blk_farT (F206.out.blk 8 rfl) (F206.out.own 1 rfl) hch)
              have X_p16 := Lib.hid (blk_chg (F206.out.blk 7 rfl) hch (fun hr => by have := RG_z.out _ hr; omega))
              have X_p17 := Lib.hid (blk_chg (F206.out.blk 6 rfl) hch (fun hr => by have := RG_z.out _ hr; omega))
              have X_p18 := Lib.hid (blk_chg (F206.out.blk 5 rfl) hch (fun hr => by have := RG_z.out _ hr; omega))
              have X_pz := Lib.hid (blk_farT (F206.out.blk 0 rfl) (F206.out.own 1 rfl) hch)
              have Y_x := Lib.hid (owns_apart (F206.out.own 2 rfl) hch RG_x.out (fun k hk => RG_z.out k hk) (by omega))
              have Y_w := Lib.hid (owns_apart (F206.out.own 4 rfl) hch RG_w.out (fun k hk => RG_z.out k hk) (by omega))
              have Y_n := Lib.hid (owns_apart (F206.out.own 3 rfl) hch RG_n.out (fun k hk => RG_z.out k hk) (by omega))
              have F207 := Lib.hid (HS.nil u25)
              have F208 := Lib.hid (HS.addB F207.out (g := w.heap.size) (t := 27) (cs := #[.string ko, .slice A a.length c, .slice B l.length d]) (HPO.out.below BB.out HPO.out.lt))
              clear F207
              have F209 := Lib.hid (F208.out.addR (HOI.out.ra.below BB.out))
              clear F208
              have F210 := Lib.hid (F209.out.addR (HOI.out.rl.below BB.out))
              clear F209
              have F211 := Lib.hid (F210.out.addR (HST.out.1.1.below BB.out))
              clear F210
              have F212 := Lib.hid (F211.out.addR (HST.out.2.2.1.below BB.out))
              clear F211
              have F213 := Lib.hid (F212.out.addR (HST.out.2.2.2.1.below BB.out))
              clear F212
              have F214 := Lib.hid (HS.addB F213.out (g := v0.heap.size) (t := 31) (cs := #[.bool false, .slice E x.length xc, .int .u32 act, .string val, .bool gone, .string key, .slice A2 a2.length ac, .slice B2 l2.length lc]) (X_ps.out))
              clear F213
              have F215 := Lib.hid (HS.addB F214.out (g := u2.heap.size) (t := 27) (cs := #[.string ko, .slice (some ⟨g1x, 0, none⟩) a.length h1x, .slice (some ⟨g2x, 0, none⟩) l.length h2x]) (X_px.out))
              clear F214
              have F216 := Lib.hid (HS.addB F215.out (g := u2.heap.size + 1) (t := 27) (cs := #[.string kk, .slice Aw J.length cw, .slice Bw M.length dw]) (X_p8.out))
              clear F215
              have F217 := Lib.hid (HS.addB F216.out (g := u2.heap.size + 1 + 1) (t := 27) (cs := #[.string kk, .slice Ag J.length cg, .slice Bg M.length dg]) (X_p9.out))
              clear F216
              have F218 := Lib.hid (HS.addB F217.out (g := u2.heap.size + 1 + 1 + 1) (t := 27) (cs := #[.string kk, .slice An J.length cn, .slice Bn M.length dn]) (X_p10.out))
              clear F217
              have F219 := Lib.hid (HS.addB F218.out (g := u4.heap.size) (t := 41) (cs := #[.int .u32 D.a, .int .u64 D.n]) (X_p16.out))
              clear F218
              have F220 := Lib.hid (HS.addB F219.out (g := u4.heap.size + 1) (t := 41) (cs := #[.int .u32 D.a, .int .u64 D.n]) (X_p17.out))
              clear F219
              have F221 := Lib.hid (HS.addB F220.out (g := u4.heap.size + 1 + 1) (t := 41) (cs := #[.int .u32 D.a, .int .u64 D.n]) (X_p18.out))
              clear F220
              have F222 := Lib.hid (HS.addB F221.out (g := u23.heap.size) (t := 27) (cs := #[.string ko, .slice (some ⟨g1z, 0, none⟩) a.length h1z, .slice (some ⟨g2z, 0, none⟩) l.length h2z]) (X_pz.out))
              clear F221
              have F223 := Lib.hid (F222.out.addO (Y_x.out))
              clear F222
              have F224 := Lib.hid (F223.out.addO (Y_w.out))
              clear F223
              have F225 := Lib.hid (F224.out.addO (Y_n.out))
              clear F224
              have F226 := Lib.hid (F225.out.addO (hot))
              clear F225
              clear F206 X_ps X_px X_p8 X_p9 X_p10 X_p16 X_p17 X_p18 X_pz Y_x Y_w Y_n
              clear hch hot
              have pz_0 : u25.cell? ⟨u23.heap.size, 0, none⟩ = some (.string ko) := (F226.out.blk 4 rfl).cell 0
              have pz_1 : u25.cell? ⟨u23.heap.size, 1, none⟩ = some (.slice (some ⟨g1z, 0, none⟩) a.length h1z) := (F226.out.blk 4 rfl).cell 1
              have pz_2 : u25.cell? ⟨u23.heap.size, 2, none⟩ = some (.slice (some ⟨g2z, 0, none⟩) l.length h2z) := (F226.out.blk 4 rfl).cell 2
              have ps_0 : u25.cell? ⟨v0.heap.size, 0, none⟩ = some (.bool false) := (F226.out.blk 12 rfl).cell 0
              have ps_1 : u25.cell? ⟨v0.heap.size, 1, none⟩ = some (.slice E x.length xc) := (F226.out.blk 12 rfl).cell 1
              have ps_2 : u25.cell? ⟨v0.heap.size, 2, none⟩ = some (.int .u32 act) := (F226.out.blk 12 rfl).cell 2
              have ps_3 : u25.cell? ⟨v0.heap.size, 3, none⟩ = some (.string val) := (F226.out.blk 12 rfl).cell 3
              have ps_4 : u25.cell? ⟨v0.heap.size, 4, none⟩ = some (.bool gone) := (F226.out.blk 12 rfl).cell 4
              have ps_5 : u25.cell? ⟨v0.heap.size, 5, none⟩ = some (.string key) := (F226.out.blk 12 rfl).cell 5
              have ps_6 : u25.cell? ⟨v0.heap.size, 6, none⟩ = some (.slice A2 a2.length ac) := (F226.out.blk 12 rfl).cell 6
              have ps_7 : u25.cell? ⟨v0.heap.size, 7, none⟩ = some (.slice B2 l2.length lc) := (F226.out.blk 12 rfl).cell 7
              have pz_lt : u23.heap.size < u25.heap.size := (F226.out.blk 4 rfl).lt
              have ps_lt : v0.heap.size < u25.heap.size := (F226.out.blk 12 rfl).lt
              go_wp2_with fail
              clear pz_0 pz_1 pz_2 pz_lt ps_0 ps_1 ps_2 ps_3 ps_4 ps_5 ps_6 ps_7 ps_lt
              refine (doputO J2 M2 D2 X2 (rd_take (F226.out.own 0 rfl).d (by have := ta16.out; show ta.length * 16 ≤ _; omega)) (rd_take (F226.out.own 0 rfl).s (by have := tl40.out; show tl.length * 40 ≤ _; omega)) (GR.Rd.nil dotK _ none) LA.out.symm LL0.out.symm rfl TR.out (fun d hd => by cases hd) HACT.out G0.out G1.out G2.out G3.out G4.out).mono ?_
              rintro e u26 ⟨Av, Bv, cv, dv, rfl, ho, hb⟩
              have RG_v := Lib.hid (rows2_rng ho)
              have mn27 : u25.heap.size ≤ u26.heap.size := Below.size hb
              have F227 := Lib.hid (F226.out.below hb)
              clear F226
              have F228 := Lib.hid (F227.out.addO (ho))
              clear F227
              replace BB := Lib.hid (bl_then BB.out hb)
              clear hb
              clear ho
              go_upto_region 40 with fail
              obtain ⟨Z27, hZ27⟩ : ∃ W : World, W = (u26.alloc (.cells #[.string kk2, .slice Av J2.length cv, .slice Bv M2.length dv] 27)).alloc (.cells #[.int .u32 D2.a, .int .u64 D2.n] 41) := ⟨_, rfl⟩
              rw [← hZ27]
              have LL : Hid (Below u26.heap.size u26 Z27) := Lib.hid (by rw [hZ27]; exact (by repeat (first | exact Below.refl _ _ | refine bl_drewN ?_ _ | refine bl_drew ?_ | refine bl_alloc ?_ _)))
              have X_p22 : Hid (GR.Blk Z27 (u26.heap.size) 27 #[.string kk2, .slice Av J2.length cv, .slice Bv M2.length dv]) := Lib.hid (by rw [hZ27]; exact (GR.Blk.new _ _ _).alloc _)
              have X_p23 : Hid (GR.Blk Z27 (u26.heap.size + 1) 41 #[.int .u32 D2.a, .int .u64 D2.n]) := Lib.hid (by rw [hZ27]; exact new_at _ _ _ (by simp))
              have mn28 : u26.heap.size + 2 ≤ Z27.heap.size := by rw [hZ27]; simp; try omega
              clear hZ27
              have F229 := Lib.hid (F228.out.below LL.out)
              clear F228
              have F230 := Lib.hid (HS.addB F229.out (g := u26.heap.size) (t := 27) (cs := #[.string kk2, .slice Av J2.length cv, .slice Bv M2.length dv]) (X_p22.out))
              clear F229
              have F231 := Lib.hid (HS.addB F230.out (g := u26.heap.size + 1) (t := 41) (cs := #[.int .u32 D2.a, .int .u64 D2.n]) (X_p23.out))
              clear F230
              clear X_p22 X_p23
              replace BB := Lib.hid (bl_then BB.out LL.out)
              clear LL
              have px_0 : Z27.cell? ⟨u2.heap.size, 0, none⟩ = some (.string ko) := (F231.out.blk 14 rfl).cell 0
              have px_1 : Z27.cell? ⟨u2.heap.size, 1, none⟩ = some (.slice (some ⟨g1x, 0, none⟩) a.length h1x) := (F231.out.blk 14 rfl).cell 1
              have px_2 : Z27.cell? ⟨u2.heap.size, 2, none⟩ = some (.slice (some ⟨g2x, 0, none⟩) l.length h2x) := (F231.out.blk 14 rfl).cell 2
              have ps_0 : Z27.cell? ⟨v0.heap.size, 0, none⟩ = some (.bool false) := (F231.out.blk 15 rfl).cell 0
              have ps_1 : Z27.cell? ⟨v0.heap.size, 1, none⟩ = some (.slice E x.length xc) := (F231.out.blk 15 rfl).cell 1
              have ps_2 : Z27.cell? ⟨v0.heap.size, 2, none⟩ = some (.int .u32 act) := (F231.out.blk 15 rfl).cell 2
              have ps_3 : Z27.cell? ⟨v0.heap.size, 3, none⟩ = some (.string val) := (F231.out.blk 15 rfl).cell 3
              have ps_4 : Z27.cell? ⟨v0.heap.size, 4, none⟩ = some (.bool gone) := (F231.out.blk 15 rfl).cell 4
              have ps_5 : Z27.cell? ⟨v0.heap.size, 5, none⟩ = some (.string key) := (F231.out.blk 15 rfl).cell 5
              have ps_6 : Z27.cell? ⟨v0.heap.size, 6, none⟩ = some (.slice A2 a2.length ac) := (F231.out.blk 15 rfl).cell 6
              have ps_7 : Z27.cell? ⟨v0.heap.size, 7, none⟩ = some (.slice B2 l2.length lc) := (F231.out.blk 15 rfl).cell 7
              have px_lt : u2.heap.size < Z27.heap.size := (F231.out.blk 14 rfl).lt
              have ps_lt : v0.heap.size < Z27.heap.size := (F231.out.blk 15 rfl).lt
              go_wp2_with fail
              clear px_0 px_1 px_2 px_lt ps_0 ps_1 ps_2 ps_3 ps_4 ps_5 ps_6 ps_7 ps_lt
              refine (oputO J2 M2 D2 X2 (rd_take (F231.out.own 6 rfl).d (by have := ta16.out; show ta.length * 16 ≤ _; omega)) (rd_take (F231.out.own 6 rfl).s (by have := tl40.out; show tl.length * 40 ≤ _; omega)) (GR.Rd.nil dotK _ none) LA.out.symm LL0.out.symm rfl (cap_take (own_cap (F231.out.own 6 rfl).d)) (Nat.le_refl _) TR.out (fun d hd => by cases hd) HACT.out G0.out G1.out G2.out G3.out G4.out).mono ?_
              rintro e u28 ⟨Ah, Bh, ch, dh, rfl, ho, hb⟩
              have RG_h := Lib.hid (rows2_rng ho)
              have mn29 : Z27.heap.size ≤ u28.heap.size := Below.size hb
              have F232 := Lib.hid (F231.out.below hb)
              clear F231
              have F233 := Lib.hid (F232.out.addO (ho))
              clear F232
              replace BB := Lib.hid (bl_then BB.out hb)
              clear hb
              clear ho
              go_upto_region 41 with fail
              obtain ⟨Z29, hZ29⟩ : ∃ W : World, W = (u28.alloc (.cells #[.string kk2, .slice Ah J2.length ch, .slice Bh M2.length dh] 27)).alloc (.cells #[.int .u32 D2.a, .int .u64 D2.n] 41) := ⟨_, rfl⟩
              rw [← hZ29]
              have LL : Hid (Below u28.heap.size u28 Z29) := Lib.hid (by rw [hZ29]; exact (by repeat (first | exact Below.refl _ _ | refine bl_drewN ?_ _ | refine bl_drew ?_ | refine bl_alloc ?_ _)))
              have X_p25 : Hid (GR.Blk Z29 (u28.heap.size) 27 #[.string kk2, .slice Ah J2.length ch, .slice Bh M2.length dh]) := Lib.hid (by rw [hZ29]; exact (GR.Blk.new _ _ _).alloc _)
              have X_p26 : Hid (GR.Blk Z29 (u28.heap.size + 1) 41 #[.int .u32 D2.a, .int .u64 D2.n]) := Lib.hid (by rw [hZ29]; exact new_at _ _ _ (by simp))
              have mn30 : u28.heap.size + 2 ≤ Z29.heap.size := by rw [hZ29]; simp; try omega
              clear hZ29
              have F234 := Lib.hid (F233.out.below LL.out)
              clear F233
              have F235 := Lib.hid (HS.addB F234.out (g := u28.heap.size) (t := 27) (cs := #[.string kk2, .slice Ah J2.length ch, .slice Bh M2.length dh]) (X_p25.out))
              clear F234
              have F236 := Lib.hid (HS.addB F235.out (g := u28.heap.size + 1) (t := 41) (cs := #[.int .u32 D2.a, .int .u64 D2.n]) (X_p26.out))
              clear F235
              clear X_p25 X_p26
              replace BB := Lib.hid (bl_then BB.out LL.out)
              clear LL
              have p22_0 : Z29.cell? ⟨u26.heap.size, 0, none⟩ = some (.string kk2) := (F236.out.blk 4 rfl).cell 0
              have p22_1 : Z29.cell? ⟨u26.heap.size, 1, none⟩ = some (.slice Av J2.length cv) := (F236.out.blk 4 rfl).cell 1
              have p22_2 : Z29.cell? ⟨u26.heap.size, 2, none⟩ = some (.slice Bv M2.length dv) := (F236.out.blk 4 rfl).cell 2
              have p23_0 : Z29.cell? ⟨u26.heap.size + 1, 0, none⟩ = some (.int .u32 D2.a) := (F236.out.blk 3 rfl).cell 0
              have p23_1 : Z29.cell? ⟨u26.heap.size + 1, 1, none⟩ = some (.int .u64 D2.n) := (F236.out.blk 3 rfl).cell 1
              have p25_0 : Z29.cell? ⟨u28.heap.size, 0, none⟩ = some (.string kk2) := (F236.out.blk 1 rfl).cell 0
              have p25_1 : Z29.cell? ⟨u28.heap.size, 1, none⟩ = some (.slice Ah J2.length ch) := (F236.out.blk 1 rfl).cell 1
              have p25_2 : Z29.cell? ⟨u28.heap.size, 2, none⟩ = some (.slice Bh M2.length dh) := (F236.out.blk 1 rfl).cell 2
              have p26_0 : Z29.cell? ⟨u28.heap.size + 1, 0, none⟩ = some (.int .u32 D2.a) := (F236.out.blk 0 rfl).cell 0
              have p26_1 : Z29.cell? ⟨u28.heap.size + 1, 1, none⟩ = some (.int .u64 D2.n) := (F236.out.blk 0 rfl).cell 1
              have p22_lt : u26.heap.size < Z29.heap.size := (F236.out.blk 4 rfl).lt
              have p23_lt : u26.heap.size + 1 < Z29.heap.size := (F236.out.blk 3 rfl).lt
              have p25_lt : u28.heap.size < Z29.heap.size := (F236.out.blk 1 rfl).lt
              have p26_lt : u28.heap.size + 1 < Z29.heap.size := (F236.out.blk 0 rfl).lt
              go_wp2_with fail
              clear p22_0 p22_1 p22_2 p22_lt p23_0 p23_1 p23_lt p25_0 p25_1 p25_2 p25_lt p26_0 p26_1 p26_lt
              refine (lsameq true ((F236.out.own 2 rfl).d.rd jk).2.2 ((F236.out.own 2 rfl).s.rd jl).2.2 ((F236.out.own 5 rfl).d.rd jk).2.2 ((F236.out.own 5 rfl).s.rd jl).2.2 rfl rfl rfl rfl (okself _ _ _)).mono ?_
              rintro e u30 ⟨rfl, hb⟩
              have mn31 : Z29.heap.size ≤ u30.heap.size := Below.size hb
              have F237 := Lib.hid (F236.out.below hb)
              clear F236
              replace BB := Lib.hid (bl_then BB.out hb)
              clear hb
              have p10_0 : u30.cell? ⟨u2.heap.size + 1 + 1 + 1, 0, none⟩ = some (.string kk) := (F237.out.blk 14 rfl).cell 0
              have p10_1 : u30.cell? ⟨u2.heap.size + 1 + 1 + 1, 1, none⟩ = some (.slice An J.length cn) := (F237.out.blk 14 rfl).cell 1
              have p10_2 : u30.cell? ⟨u2.heap.size + 1 + 1 + 1, 2, none⟩ = some (.slice Bn M.length dn) := (F237.out.blk 14 rfl).cell 2
              have p8_0 : u30.cell? ⟨u2.heap.size + 1, 0, none⟩ = some (.string kk) := (F237.out.blk 16 rfl).cell 0
              have p8_1 : u30.cell? ⟨u2.heap.size + 1, 1, none⟩ = some (.slice Aw J.length cw) := (F237.out.blk 16 rfl).cell 1
              have p8_2 : u30.cell? ⟨u2.heap.size + 1, 2, none⟩ = some (.slice Bw M.length dw) := (F237.out.blk 16 rfl).cell 2
              have p10_lt : u2.heap.size + 1 + 1 + 1 < u30.heap.size := (F237.out.blk 14 rfl).lt
              have p8_lt : u2.heap.size + 1 < u30.heap.size := (F237.out.blk 16 rfl).lt
              go_wp2_with fail
              clear p10_0 p10_1 p10_2 p10_lt p8_0 p8_1 p8_2 p8_lt
              refine (lsameq true ((F237.out.own 7 rfl).d.rd jj).2.2 ((F237.out.own 7 rfl).s.rd jm).2.2 ((F237.out.own 8 rfl).d.rd jj).2.2 ((F237.out.own 8 rfl).s.rd jm).2.2 rfl rfl rfl rfl (okself _ _ _)).mono ?_
              rintro e u31 ⟨rfl, hb⟩
              have mn32 : u30.heap.size ≤ u31.heap.size := Below.size hb
              have F238 := Lib.hid (F237.out.below hb)
              clear F237
              replace BB := Lib.hid (bl_then BB.out hb)
              clear hb
              have px_0 : u31.cell? ⟨u2.heap.size, 0, none⟩ = some (.string ko) := (F238.out.blk 17 rfl).cell 0
              have px_1 : u31.cell? ⟨u2.heap.size, 1, none⟩ = some (.slice (some ⟨g1x, 0, none⟩) a.length h1x) := (F238.out.blk 17 rfl).cell 1
              have px_2 : u31.cell? ⟨u2.heap.size, 2, none⟩ = some (.slice (some ⟨g2x, 0, none⟩) l.length h2x) := (F238.out.blk 17 rfl).cell 2
              have px_lt : u2.heap.size < u31.heap.size := (F238.out.blk 17 rfl).lt
              go_wp2_with fail
              clear px_0 px_1 px_2 px_lt
              refine (lspoil_any _ ko _ _ _ ta tl _ ⟨ownL (F238.out.own 9 rfl).d.take LA.out, ownL (F238.out.own 9 rfl).s.take LL0.out⟩ (by omega) ta16.out tl40.out).mono ?_
              rintro e u32 ⟨⟨r32, rfl, hr40⟩, hch⟩
              have r40 : decide (r32 < 40) = false := decide_eq_false (by omega)
              have mn33 : u31.heap.size ≤ u32.heap.size := hch.size
              have BC : Below v0.heap.size u31 u32 := hch.below BB.out.size (fun k hk => Nat.le_trans (by omega) (RG_x.out k hk).1)
              replace BB := Lib.hid (BB.out.trans BC)
              clear BC
              have X_ps := Lib.hid (blk_farT (F238.out.blk 18 rfl) ⟨ownL (F238.out.own 9 rfl).d.take LA.out, ownL (F238.out.own 9 rfl).s.take LL0.out⟩ hch)
              have X_px := Lib.hid (blk_farT (F238.out.blk 17 rfl) ⟨ownL (F238.out.own 9 rfl).d.take LA.out, ownL (F238.out.own 9 rfl).s.take LL0.out⟩ hch)
              have X_p8 := Lib.hid (blk_farT (F238.out.blk 16 rfl) ⟨ownL (F238.out.own 9 rfl).d.take LA.out, ownL (F238.out.own 9 rfl).s.take LL0.out⟩ hch)
              have X_p9 := Lib.hid (blk_farT (F238.out.blk 15 rfl) ⟨ownL (F238.out.own 9 rfl).d.take LA.out, ownL (F238.out.own 9 rfl).s.take LL0.out⟩ hch)
              have X_p10 := Lib.hid (blk_farT (F238.out.blk 14 rfl) ⟨ownL (F238.out.own 9 rfl).d.take LA.out, ownL (F238.out.own 9 rfl).s.take LL0.out⟩ hch)
              have X_p16 := Lib.hid (blk_chg (F238.out.blk 13 rfl) hch (fun hr => by have := RG_x.out _ hr; omega))
              have X_p17 := Lib.hid (blk_chg (F238.out.blk 12 rfl) hch (fun hr => by have := RG_x.out _ hr; omega))
              have X_p18 := Lib.hid (blk_chg (F238.out.blk 11 rfl) hch (fun hr => by have := RG_x.out _ hr; omega))
              have X_pz := Lib.hid (blk_farT (F238.out.blk 10 rfl) ⟨ownL (F238.out.own 9 rfl).d.take LA.out, ownL (F238.out.own 9 rfl).s.take LL0.out⟩ hch)
              have X_p22 := Lib.hid (blk_farT (F238.out.blk 4 rfl) ⟨ownL (F238.out.own 9 rfl).d.take LA.out, ownL (F238.out.own 9 rfl).s.take LL0.out⟩ hch)
              have X_p23 := Lib.hid (blk_chg (F238.out.blk 3 rfl) hch (fun hr => by have := RG_x.out _ hr; omega))
              have X_p25 := Lib.hid (blk_farT (F238.out.blk 1 rfl) ⟨ownL (F238.out.own 9 rfl).d.take LA.out, ownL (F238.out.own 9 rfl).s.take LL0.out⟩ hch)
              have X_p26 := Lib.hid (blk_chg (F238.out.blk 0 rfl) hch (fun hr => by have := RG_x.out _ hr; omega))
              have Y_w := Lib.hid (owns_apart (F238.out.own 8 rfl) hch RG_w.out (fun k hk => RG_x.out k hk) (by omega))
              have Y_n := Lib.hid (owns_apart (F238.out.own 7 rfl) hch RG_n.out (fun k hk => RG_x.out k hk) (by omega))
              have Y_z := Lib.hid (owns_apart (F238.out.own 6 rfl) hch RG_z.out (fun k hk => RG_x.out k hk) (by omega))
              have Y_v := Lib.hid (owns_apart (F238.out.own 5 rfl) hch RG_v.out (fun k hk => RG_x.out k hk) (by omega))
              have Y_h := Lib.hid (owns_apart (F238.out.own 2 rfl) hch RG_h.out (fun k hk => RG_x.out k hk) (by omega))
              have F239 := Lib.hid (HS.nil u32)
              have F240 := Lib.hid (HS.addB F239.out (g := w.heap.size) (t := 27) (cs := #[.string ko, .slice A a.length c, .slice B l.length d]) (HPO.out.below BB.out HPO.out.lt))
              clear F239
              have F241 := Lib.hid (F240.out.addR (HOI.out.ra.below BB.out))
              clear F240
              have F242 := Lib.hid (F241.out.addR (HOI.out.rl.below BB.out))
              clear F241
              have F243 := Lib.hid (F242.out.addR (HST.out.1.1.below BB.out))
              clear F242
              have F244 := Lib.hid (F243.out.addR (HST.out.2.2.1.below BB.out))
              clear F243
              have F245 := Lib.hid (F244.out.addR (HST.out.2.2.2.1.below BB.out))
              clear F244
              have F246 := Lib.hid (HS.addB F245.out (g := v0.heap.size) (t := 31) (cs := #[.bool false, .slice E x.length xc, .int .u32 act, .string val, .bool gone, .string key, .slice A2 a2.length ac, .slice B2 l2.length lc]) (X_ps.out))
              clear F245
              have F247 := Lib.hid (HS.addB F246.out (g := u2.heap.size) (t := 27) (cs := #[.string ko, .slice (some ⟨g1x, 0, none⟩) a.length h1x, .slice (some ⟨g2x, 0, none⟩) l.length h2x]) (X_px.out))
              clear F246
              have F248 := Lib.hid (HS.addB F247.out (g := u2.heap.size + 1) (t := 27) (cs := #[.string kk, .slice Aw J.length cw, .slice Bw M.length dw]) (X_p8.out))
              clear F247
              have F249 := Lib.hid (HS.addB F248.out (g := u2.heap.size + 1 + 1) (t := 27) (cs := #[.string kk, .slice Ag J.length cg, .slice Bg M.length dg]) (X_p9.out))
              clear F248
              have F250 := Lib.hid (HS.addB F249.out (g := u2.heap.size + 1 + 1 + 1) (t := 27) (cs := #[.string kk, .slice An J.length cn, .slice Bn M.length dn]) (X_p10.out))
              clear F249
              have F251 := Lib.hid (HS.addB F250.out (g := u4.heap.size) (t := 41) (cs := #[.int .u32 D.a, .int .u64 D.n]) (X_p16.out))
              clear F250
              have F252 := Lib.hid (HS.addB F251.out (g := u4.heap.size + 1) (t := 41) (cs := #[.int .u32 D.a, .int .u64 D.n]) (X_p17.out))
              clear F251
              have F253 := Lib.hid (HS.addB F252.out (g := u4.heap.size + 1 + 1) (t := 41) (cs := #[.int .u32 D.a, .int .u64 D.n]) (X_p18.out))
              clear F252
              have F254 := Lib.hid (HS.addB F253.out (g := u23.heap.size) (t := 27) (cs := #[.string ko, .slice (some ⟨g1z, 0, none⟩) a.length h1z, .slice (some ⟨g2z, 0, none⟩) l.length h2z]) (X_pz.out))
              clear F253
              have F255 := Lib.hid (HS.addB F254.out (g := u26.heap.size) (t := 27) (cs := #[.string kk2, .slice Av J2.length cv, .slice Bv M2.length dv]) (X_p22.out))
              clear F254
              have F256 := Lib.hid (HS.addB F255.out (g := u26.heap.size + 1) (t := 41) (cs := #[.int .u32 D2.a, .int .u64 D2.n]) (X_p23.out))
              clear F255
              have F257 := Lib.hid (HS.addB F256.out (g := u28.heap.size) (t := 27) (cs := #[.string kk2, .slice Ah J2.length ch, .slice Bh M2.length dh]) (X_p25.out))
              clear F256
              have F258 := Lib.hid (HS.addB F257.out (g := u28.heap.size + 1) (t := 41) (cs := #[.int .u32 D2.a, .int .u64 D2.n]) (X_p26.out))
              clear F257
              have F259 := Lib.hid (F258.out.addO (Y_w.out))
              clear F258
              have F260 := Lib.hid (F259.out.addO (Y_n.out))
              clear F259
              have F261 := Lib.hid (F260.out.addO (Y_z.out))
              clear F260
              have F262 := Lib.hid (F261.out.addO (Y_v.out))
              clear F261
              have F263 := Lib.hid (F262.out.addO (Y_h.out))
              clear F262
              clear F238 X_ps X_px X_p8 X_p9 X_p10 X_p16 X_p17 X_p18 X_pz X_p22 X_p23 X_p25 X_p26 Y_w Y_n Y_z Y_v Y_h
              clear hch hr40
              have p10_0 : u32.cell? ⟨u2.heap.size + 1 + 1 + 1, 0, none⟩ = some (.string kk) := (F263.out.blk 13 rfl).cell 0
              have p10_1 : u32.cell? ⟨u2.heap.size + 1 + 1 + 1, 1, none⟩ = some (.slice An J.length cn) := (F263.out.blk 13 rfl).cell 1
              have p10_2 : u32.cell? ⟨u2.heap.size + 1 + 1 + 1, 2, none⟩ = some (.slice Bn M.length dn) := (F263.out.blk 13 rfl).cell 2
              have p8_0 : u32.cell? ⟨u2.heap.size + 1, 0, none⟩ = some (.string kk) := (F263.out.blk 15 rfl).cell 0
              have p8_1 : u32.cell? ⟨u2.heap.size + 1, 1, none⟩ = some (.slice Aw J.length cw) := (F263.out.blk 15 rfl).cell 1
              have p8_2 : u32.cell? ⟨u2.heap.size + 1, 2, none⟩ = some (.slice Bw M.length dw) := (F263.out.blk 15 rfl).cell 2
              have p10_lt : u2.heap.size + 1 + 1 + 1 < u32.heap.size := (F263.out.blk 13 rfl).lt
              have p8_lt : u2.heap.size + 1 < u32.heap.size := (F263.out.blk 15 rfl).lt
              go_wp2_with fail
              clear p10_0 p10_1 p10_2 p10_lt p8_0 p8_1 p8_2 p8_lt
              refine (lsameq true ((F263.out.own 3 rfl).d.rd jj).2.2 ((F263.out.own 3 rfl).s.rd jm).2.2 ((F263.out.own 4 rfl).d.rd jj).2.2 ((F263.out.own 4 rfl).s.rd jm).2.2 rfl rfl rfl rfl (okself _ _ _)).mono ?_
              rintro e u33 ⟨rfl, hb⟩
              have mn34 : u32.heap.size ≤ u33.heap.size := Below.size hb
              have F264 := Lib.hid (F263.out.below hb)
              clear F263
              replace BB := Lib.hid (bl_then BB.out hb)
              clear hb
              by_cases hX : X = 0
              · have hx1 : (X == 0) = true := by simpa using hX
                have hx2 : decide (X = 0) = true := decide_eq_true hX
                have HCK := Lib.hid (HEND.out hX)
                clear hX
                have p8_0 : u33.cell? ⟨u2.heap.size + 1, 0, none⟩ = some (.string kk) := (F264.out.blk 15 rfl).cell 0
                have p8_1 : u33.cell? ⟨u2.heap.size + 1, 1, none⟩ = some (.slice Aw J.length cw) := (F264.out.blk 15 rfl).cell 1
                have p8_2 : u33.cell? ⟨u2.heap.size + 1, 2, none⟩ = some (.slice Bw M.length dw) := (F264.out.blk 15 rfl).cell 2
                have po_0 : u33.cell? ⟨w.heap.size, 0, none⟩ = some (.string ko) := (F264.out.blk 23 rfl).cell 0
                have po_1 : u33.cell? ⟨w.heap.size, 1, none⟩ = some (.slice A a.length c) := (F264.out.blk 23 rfl).cell 1
                have po_2 : u33.cell? ⟨w.heap.size, 2, none⟩ = some (.slice B l.length d) := (F264.out.blk 23 rfl).cell 2
                have p8_lt : u2.heap.size + 1 < u33.heap.size := (F264.out.blk 15 rfl).lt
                have po_lt : w.heap.size < u33.heap.size := (F264.out.blk 23 rfl).lt
                have po_f0 := (F264.out.blk 23 rfl).frozen 0
                have po_f1 := (F264.out.blk 23 rfl).frozen 1
                have po_f2 := (F264.out.blk 23 rfl).frozen 2
                have HOW := Lib.hid ((F264.out.own 4 rfl))
                have HBP := Lib.hid ((F264.out.blk 23 rfl))
                go_wp2
                go_roundw
                case rel => exact ⟨k + 1, kk, Aw, Bw, cw, dw, J, M, by omega, by go_num, Lib.hid (blk_set3 HBP.out), Lib.hid (oin_own (ob_put HOW.out HBP.out).1 HCK.out HSTR.out), Lib.hid (by repeat (first | exact bl_then HW.out BB.out | refine Below.setCell ?_ (by show w.heap.size ≤ w.heap.size; exact Nat.le_refl _) _))⟩
                case measure => simp [intOf]; omega
              · have hx1 : (X == 0) = false := by simpa using hX
                have hx2 : decide (X = 0) = false := decide_eq_false hX
                clear hX
                have HBP := Lib.hid ((F264.out.blk 23 rfl))
                go_wp2
                go_roundw
                case rel => exact ⟨k + 1, ko, A, B, c, d, a, l, by omega, by go_num, HBP, Lib.hid (HOI.out.below BB.out), Lib.hid (bl_then HW.out BB.out)⟩
                case measure => simp [intOf]; omega
      | true =>
        as_aux_lemma =>
          obtain ⟨kk, hkk⟩ : ∃ y, omrgK ko a l key a2 l2 = y := ⟨_, rfl⟩
          obtain ⟨J, hJ⟩ : ∃ y, omrgA ko a l key a2 l2 = y := ⟨_, rfl⟩
          obtain ⟨M, hM⟩ : ∃ y, omrgL ko a l key a2 l2 = y := ⟨_, rfl⟩
          obtain ⟨X, hX⟩ : ∃ y, omrgE ko a l key a2 l2 = y := ⟨_, rfl⟩
          have hsz := mrg_small ko a l key a2 l2
          rw [hJ, hM] at hsz
          have jj : J.length * 16 ≤ 140737488355328 := by omega
          have jm : M.length * 40 ≤ 140737488355328 := by omega
          have jj2 : J.length * 16 ≤ 140737488351232 := by omega
          have jm2 : M.length * 40 ≤ 140737488351232 := by omega
          clear hsz
          have HSTR : Hid (StR J M) := Lib.hid (by rw [← hJ, ← hM]; exact mrg_str HOI.out.str HR2.out)
          have HEND : Hid (X = 0 → chkE kk J M = 0) := Lib.hid (fun h => by rw [← hJ, ← hM, ← hkk, (omrg_yes (hX.trans h)).2.1]; exact omrg_chk (hX.trans h))
          have E0 := Lib.hid hkk
          have E1 := Lib.hid hJ
          have E2 := Lib.hid hM
          have E3 := Lib.hid hX
          clear hkk hJ hM hX
          have t1 : (X != X) = false := by simp
          go_wp2_with fail
          obtain ⟨Z34, hZ34⟩ : ∃ W : World, W = v0.alloc (.cells #[.bool true, .slice E x.length xc, .int .u32 act, .string val, .bool gone, .string key, .slice A2 a2.length ac, .slice B2 l2.length lc] 31) := ⟨_, rfl⟩
          rw [← hZ34]
          have LL : Hid (Below v0.heap.size v0 Z34) := Lib.hid (by rw [hZ34]; exact (by repeat (first | exact Below.refl _ _ | refine bl_drewN ?_ _ | refine bl_drew ?_ | refine bl_alloc ?_ _)))
          have X_ps : Hid (GR.Blk Z34 (v0.heap.size) 31 #[.bool true, .slice E x.length xc, .int .u32 act, .string val, .bool gone, .string key, .slice A2 a2.length ac, .slice B2 l2.length lc]) := Lib.hid (by rw [hZ34]; exact GR.Blk.new _ _ _)
          have mn35 : v0.heap.size + 1 ≤ Z34.heap.size := by rw [hZ34]; simp; try omega
          clear hZ34
          have F265 := Lib.hid (HS.nil Z34)
          have F266 := Lib.hid (HS.addB F265.out (g := v0.heap.size) (t := 31) (cs := #[.bool true, .slice E x.length xc, .int .u32 act, .string val, .bool gone, .string key, .slice A2 a2.length ac, .slice B2 l2.length lc]) (X_ps.out))
          clear F265
          clear X_ps
          have BB := LL
          clear LL
          clear po_0 po_1 po_2 s0 s1 s2 s3 s4 s5 s6 s7
          have F267 := Lib.hid (HS.addB F266.out (g := w.heap.size) (t := 27) (cs := #[.string ko, .slice A a.length c, .slice B l.length d]) (HPO.out.below BB.out HPO.out.lt))
          clear F266
          have F268 := Lib.hid (F267.out.addR (HOI.out.ra.below BB.out))
          clear F267
          have F269 := Lib.hid (F268.out.addR (HOI.out.rl.below BB.out))
          clear F268
          have F270 := Lib.hid (F269.out.addR (HST.out.1.1.below BB.out))
          clear F269
          have F271 := Lib.hid (F270.out.addR (HST.out.2.2.1.below BB.out))
          clear F270
          have F272 := Lib.hid (F271.out.addR (HST.out.2.2.2.1.below BB.out))
          clear F271
          refine (obTwin_any ko A B c d a l _ (F272.out.rd 4 rfl) (F272.out.rd 3 rfl) sa sl).mono ?_
          rintro e u35 ⟨g1x, h1x, g2x, h2x, rfl, ho, hb⟩
          have RG_x := Lib.hid (rows2_rng ho)
          have mn36 : Z34.heap.size ≤ u35.heap.size := Below.size hb
          have F273 := Lib.hid (F272.out.below hb)
          clear F272
          have F274 := Lib.hid (F273.out.addO (ho))
          clear F273
          replace BB := Lib.hid (bl_then BB.out hb)
          clear hb
          clear ho
          go_upto_region 10 with fail
          obtain ⟨Z36, hZ36⟩ : ∃ W : World, W = (((u35.alloc (.cells #[.string ko, .slice (some ⟨g1x, 0, none⟩) a.length h1x, .slice (some ⟨g2x, 0, none⟩) l.length h2x] 27)).alloc (.cells #[.string ⟨#[]⟩, .slice none 0 0, .slice none 0 0] 27)).alloc (.cells #[.string ⟨#[]⟩, .slice none 0 0, .slice none 0 0] 27)).alloc (.cells #[.string ⟨#[]⟩, .slice none 0 0, .slice none 0 0] 27) := ⟨_, rfl⟩
          rw [← hZ36]
          have LL : Hid (Below u35.heap.size u35 Z36) := Lib.hid (by rw [hZ36]; exact (by repeat (first | exact Below.refl _ _ | refine bl_drewN ?_ _ | refine bl_drew ?_ | refine bl_alloc ?_ _)))
          have X_px : Hid (GR.Blk Z36 (u35.heap.size) 27 #[.string ko, .slice (some ⟨g1x, 0, none⟩) a.length h1x, .slice (some ⟨g2x, 0, none⟩) l.length h2x]) := Lib.hid (by rw [hZ36]; exact (((GR.Blk.new _ _ _).alloc _).alloc _).alloc _)
          have X_p8 : Hid (GR.Blk Z36 (u35.heap.size + 1) 27 #[.string ⟨#[]⟩, .slice none 0 0, .slice none 0 0]) := Lib.hid (by rw [hZ36]; exact ((new_at _ _ _ (by simp)).alloc _).alloc _)
          have X_p9 : Hid (GR.Blk Z36 (u35.heap.size + 1 + 1) 27 #[.string ⟨#[]⟩, .slice none 0 0, .slice none 0 0]) := Lib.hid (by rw [hZ36]; exact (new_at _ _ _ (by simp)).alloc _)
          have X_p10 : Hid (GR.Blk Z36 (u35.heap.size + 1 + 1 + 1) 27 #[.string ⟨#[]⟩, .slice none 0 0, .slice none 0 0]) := Lib.hid (by rw [hZ36]; exact new_at _ _ _ (by simp))
          have mn37 : u35.heap.size + 4 ≤ Z36.heap.size := by rw [hZ36]; simp; try omega
          clear hZ36
          have F275 := Lib.hid (F274.out.below LL.out)
          clear F274
          have F276 := Lib.hid (HS.addB F275.out (g := u35.heap.size) (t := 27) (cs := #[.string ko, .slice (some ⟨g1x, 0, none⟩) a.length h1x, .slice (some ⟨g2x, 0, none⟩) l.length h2x]) (X_px.out))
          clear F275
          have F277 := Lib.hid (HS.addB F276.out (g := u35.heap.size + 1) (t := 27) (cs := #[.string ⟨#[]⟩, .slice none 0 0, .slice none 0 0]) (X_p8.out))
          clear F276
          have F278 := Lib.hid (HS.addB F277.out (g := u35.heap.size + 1 + 1) (t := 27) (cs := #[.string ⟨#[]⟩, .slice none 0 0, .slice none 0 0]) (X_p9.out))
          clear F277
          have F279 := Lib.hid (HS.addB F278.out (g := u35.heap.size + 1 + 1 + 1) (t := 27) (cs := #[.string ⟨#[]⟩, .slice none 0 0, .slice none 0 0]) (X_p10.out))
          clear F278
          clear X_px X_p8 X_p9 X_p10
          replace BB := Lib.hid (bl_then BB.out LL.out)
          clear LL
          have ps_0 : Z36.cell? ⟨v0.heap.size, 0, none⟩ = some (.bool true) := (F279.out.blk 11 rfl).cell 0
          have ps_1 : Z36.cell? ⟨v0.heap.size, 1, none⟩ = some (.slice E x.length xc) := (F279.out.blk 11 rfl).cell 1
          have ps_2 : Z36.cell? ⟨v0.heap.size, 2, none⟩ = some (.int .u32 act) := (F279.out.blk 11 rfl).cell 2
          have ps_3 : Z36.cell? ⟨v0.heap.size, 3, none⟩ = some (.string val) := (F279.out.blk 11 rfl).cell 3
          have ps_4 : Z36.cell? ⟨v0.heap.size, 4, none⟩ = some (.bool gone) := (F279.out.blk 11 rfl).cell 4
          have ps_5 : Z36.cell? ⟨v0.heap.size, 5, none⟩ = some (.string key) := (F279.out.blk 11 rfl).cell 5
          have ps_6 : Z36.cell? ⟨v0.heap.size, 6, none⟩ = some (.slice A2 a2.length ac) := (F279.out.blk 11 rfl).cell 6
          have ps_7 : Z36.cell? ⟨v0.heap.size, 7, none⟩ = some (.slice B2 l2.length lc) := (F279.out.blk 11 rfl).cell 7
          have ps_lt : v0.heap.size < Z36.heap.size := (F279.out.blk 11 rfl).lt
          go_wp2_with fail
          clear ps_0 ps_1 ps_2 ps_3 ps_4 ps_5 ps_6 ps_7 ps_lt
          refine (obTwin_any key A2 B2 ac lc a2 l2 _ (F279.out.rd 6 rfl) (F279.out.rd 5 rfl) sa2 sl2).mono ?_
          rintro e u37 ⟨g1y, h1y, g2y, h2y, rfl, ho, hb⟩
          have RG_y := Lib.hid (rows2_rng ho)
          have mn38 : Z36.heap.size ≤ u37.heap.size := Below.size hb
          have F280 := Lib.hid (F279.out.below hb)
          clear F279
          have F281 := Lib.hid (F280.out.addO (ho))
          clear F280
          replace BB := Lib.hid (bl_then BB.out hb)
          clear hb
          clear ho
          go_upto_region 12 with fail
          obtain ⟨Z38, hZ38⟩ : ∃ W : World, W = u37.alloc (.cells #[.string key, .slice (some ⟨g1y, 0, none⟩) a2.length h1y, .slice (some ⟨g2y, 0, none⟩) l2.length h2y] 27) := ⟨_, rfl⟩
          rw [← hZ38]
          have LL : Hid (Below u37.heap.size u37 Z38) := Lib.hid (by rw [hZ38]; exact (by repeat (first | exact Below.refl _ _ | refine bl_drewN ?_ _ | refine bl_drew ?_ | refine bl_alloc ?_ _)))
          have X_py : Hid (GR.Blk Z38 (u37.heap.size) 27 #[.string key, .slice (some ⟨g1y, 0, none⟩) a2.length h1y, .slice (some ⟨g2y, 0, none⟩) l2.length h2y]) := Lib.hid (by rw [hZ38]; exact GR.Blk.new _ _ _)
          have mn39 : u37.heap.size + 1 ≤ Z38.heap.size := by rw [hZ38]; simp; try omega
          clear hZ38
          have F282 := Lib.hid (F281.out.below LL.out)
          clear F281
          have F283 := Lib.hid (HS.addB F282.out (g := u37.heap.size) (t := 27) (cs := #[.string key, .slice (some ⟨g1y, 0, none⟩) a2.length h1y, .slice (some ⟨g2y, 0, none⟩) l2.length h2y]) (X_py.out))
          clear F282
          clear X_py
          replace BB := Lib.hid (bl_then BB.out LL.out)
          clear LL
          have po_0 : Z38.cell? ⟨w.heap.size, 0, none⟩ = some (.string ko) := (F283.out.blk 12 rfl).cell 0
          have po_1 : Z38.cell? ⟨w.heap.size, 1, none⟩ = some (.slice A a.length c) := (F283.out.blk 12 rfl).cell 1
          have po_2 : Z38.cell? ⟨w.heap.size, 2, none⟩ = some (.slice B l.length d) := (F283.out.blk 12 rfl).cell 2
          have ps_0 : Z38.cell? ⟨v0.heap.size, 0, none⟩ = some (.bool true) := (F283.out.blk 13 rfl).cell 0
          have ps_1 : Z38.cell? ⟨v0.heap.size, 1, none⟩ = some (.slice E x.length xc) := (F283.out.blk 13 rfl).cell 1
          have ps_2 : Z38.cell? ⟨v0.heap.size, 2, none⟩ = some (.int .u32 act) := (F283.out.blk 13 rfl).cell 2
          have ps_3 : Z38.cell? ⟨v0.heap.size, 3, none⟩ = some (.string val) := (F283.out.blk 13 rfl).cell 3
          have ps_4 : Z38.cell? ⟨v0.heap.size, 4, none⟩ = some (.bool gone) := (F283.out.blk 13 rfl).cell 4
          have ps_5 : Z38.cell? ⟨v0.heap.size, 5, none⟩ = some (.string key) := (F283.out.blk 13 rfl).cell 5
          have ps_6 : Z38.cell? ⟨v0.heap.size, 6, none⟩ = some (.slice A2 a2.length ac) := (F283.out.blk 13 rfl).cell 6
          have ps_7 : Z38.cell? ⟨v0.heap.size, 7, none⟩ = some (.slice B2 l2.length lc) := (F283.out.blk 13 rfl).cell 7
          have po_lt : w.heap.size < Z38.heap.size := (F283.out.blk 12 rfl).lt
          have ps_lt : v0.heap.size < Z38.heap.size := (F283.out.blk 13 rfl).lt
          go_wp2_with fail
          clear po_0 po_1 po_2 po_lt ps_0 ps_1 ps_2 ps_3 ps_4 ps_5 ps_6 ps_7 ps_lt
          refine (domrgO J M X (F283.out.rd 11 rfl) (F283.out.rd 10 rfl) (F283.out.rd 8 rfl) (F283.out.rd 7 rfl) rfl rfl rfl rfl HOI.out.str HR2.out E0.out E1.out E2.out E3.out).mono ?_
          rintro e u39 ⟨Aw, Bw, cw, dw, rfl, ho, hb⟩
          have RG_w := Lib.hid (rows2_rng ho)
          have mn40 : Z38.heap.size ≤ u39.heap.size := Below.size hb
          have F284 := Lib.hid (F283.out.below hb)
          clear F283
          have F285 := Lib.hid (F284.out.addO (ho))
          clear F284
          replace BB := Lib.hid (bl_then BB.out hb)
          clear hb
          clear ho
          have p8_0 : u39.cell? ⟨u35.heap.size + 1, 0, none⟩ = some (.string ⟨#[]⟩) := (F285.out.blk 5 rfl).cell 0
          have p8_1 : u39.cell? ⟨u35.heap.size + 1, 1, none⟩ = some (.slice none 0 0) := (F285.out.blk 5 rfl).cell 1
          have p8_2 : u39.cell? ⟨u35.heap.size + 1, 2, none⟩ = some (.slice none 0 0) := (F285.out.blk 5 rfl).cell 2
          have p8_lt : u35.heap.size + 1 < u39.heap.size := (F285.out.blk 5 rfl).lt
          have p8_f0 := (F285.out.blk 5 rfl).frozen 0
          have p8_f1 := (F285.out.blk 5 rfl).frozen 1
          have p8_f2 := (F285.out.blk 5 rfl).frozen 2
          go_upto_region 13 with fail
          clear p8_0 p8_1 p8_2 p8_lt
          clear p8_f0 p8_f1 p8_f2
          obtain ⟨Z40, hZ40⟩ : ∃ W : World, W = (((u39.setCell ⟨u35.heap.size + 1, 0, none⟩ (.string kk)).setCell ⟨u35.heap.size + 1, 1, none⟩ (.slice Aw J.length cw)).setCell ⟨u35.heap.size + 1, 2, none⟩ (.slice Bw M.length dw)) := ⟨_, rfl⟩
          rw [← hZ40]
          have hch : Chg (fun k => k = u35.heap.size + 1) u39 Z40 := by rw [hZ40]; exact chg_set3 _ _ _ _ _
          have XN : Hid (GR.Blk Z40 (u35.heap.size + 1) 27 #[.string kk, .slice Aw J.length cw, .slice Bw M.length dw]) := Lib.hid (by rw [hZ40]; exact blk_set3 (F285.out.blk 5 rfl))
          have mn41 : u39.heap.size ≤ Z40.heap.size := hch.size
          have BC : Below v0.heap.size u39 Z40 := hch.below BB.out.size (fun k e => by subst e; omega)
          replace BB := Lib.hid (BB.out.trans BC)
          clear hZ40 BC
          have X_ps := Lib.hid (blk_ne (F285.out.blk 14 rfl) hch (by omega))
          have X_px := Lib.hid (blk_ne (F285.out.blk 6 rfl) hch (by omega))
          have X_p8 := Lib.hid (XN.out)
          have X_p9 := Lib.hid (blk_ne (F285.out.blk 4 rfl) hch (by omega))
          have X_p10 := Lib.hid (blk_ne (F285.out.blk 3 rfl) hch (by omega))
          have X_py := Lib.hid (blk_ne (F285.out.blk 1 rfl) hch (by omega))
          have Y_x := Lib.hid (owns_blk (F285.out.own 7 rfl) (F285.out.blk 5 rfl) hch)
          have Y_y := Lib.hid (owns_blk (F285.out.own 2 rfl) (F285.out.blk 5 rfl) hch)
          have Y_w := Lib.hid (owns_blk (F285.out.own 0 rfl) (F285.out.blk 5 rfl) hch)
          have F286 := Lib.hid (HS.nil Z40)
          have F287 := Lib.hid (HS.addB F286.out (g := w.heap.size) (t := 27) (cs := #[.string ko, .slice A a.length c, .slice B l.length d]) (HPO.out.below BB.out HPO.out.lt))
          clear F286
          have F288 := Lib.hid (F287.out.addR (HOI.out.ra.below BB.out))
          clear F287
          have F289 := Lib.hid (F288.out.addR (HOI.out.rl.below BB.out))
          clear F288
          have F290 := Lib.hid (F289.out.addR (HST.out.1.1.below BB.out))
          clear F289
          have F291 := Lib.hid (F290.out.addR (HST.out.2.2.1.below BB.out))
          clear F290
          have F292 := Lib.hid (F291.out.addR (HST.out.2.2.2.1.below BB.out))
          clear F291
          have F293 := Lib.hid (HS.addB F292.out (g := v0.heap.size) (t := 31) (cs := #[.bool true, .slice E x.length xc, .int .u32 act, .string val, .bool gone, .string key, .slice A2 a2.length ac, .slice B2 l2.length lc]) (X_ps.out))
          clear F292
          have F294 := Lib.hid (HS.addB F293.out (g := u35.heap.size) (t := 27) (cs := #[.string ko, .slice (some ⟨g1x, 0, none⟩) a.length h1x, .slice (some ⟨g2x, 0, none⟩) l.length h2x]) (X_px.out))
          clear F293
          have F295 := Lib.hid (HS.addB F294.out (g := u35.heap.size + 1) (t := 27) (cs := #[.string kk, .slice Aw J.length cw, .slice Bw M.length dw]) (X_p8.out))
          clear F294
          have F296 := Lib.hid (HS.addB F295.out (g := u35.heap.size + 1 + 1) (t := 27) (cs := #[.string ⟨#[]⟩, .slice none 0 0, .slice none 0 0]) (X_p9.out))
          clear F295
          have F297 := Lib.hid (HS.addB F296.out (g := u35.heap.size + 1 + 1 + 1) (t := 27) (cs := #[.string ⟨#[]⟩, .slice none 0 0, .slice none 0 0]) (X_p10.out))
          clear F296
          have F298 := Lib.hid (HS.addB F297.out (g := u37.heap.size) (t := 27) (cs := #[.string key, .slice (some ⟨g1y, 0, none⟩) a2.length h1y, .slice (some ⟨g2y, 0, none⟩) l2.length h2y]) (X_py.out))
          clear F297
          have F299 := Lib.hid (F298.out.addO (Y_x.out))
          clear F298
          have F300 := Lib.hid (F299.out.addO (Y_y.out))
          clear F299
          have F301 := Lib.hid (F300.out.addO (Y_w.out))
          clear F300
          clear F285 X_ps X_px X_p8 X_p9 X_p10 X_py Y_x Y_y Y_w
          clear hch XN
          have px_0 : Z40.cell? ⟨u35.heap.size, 0, none⟩ = some (.string ko) := (F301.out.blk 7 rfl).cell 0
          have px_1 : Z40.cell? ⟨u35.heap.size, 1, none⟩ = some (.slice (some ⟨g1x, 0, none⟩) a.length h1x) := (F301.out.blk 7 rfl).cell 1
          have px_2 : Z40.cell? ⟨u35.heap.size, 2, none⟩ = some (.slice (some ⟨g2x, 0, none⟩) l.length h2x) := (F301.out.blk 7 rfl).cell 2
          have py_0 : Z40.cell? ⟨u37.heap.size, 0, none⟩ = some (.string key) := (F301.out.blk 3 rfl).cell 0
          have py_1 : Z40.cell? ⟨u37.heap.size, 1, none⟩ = some (.slice (some ⟨g1y, 0, none⟩) a2.length h1y) := (F301.out.blk 3 rfl).cell 1
          have py_2 : Z40.cell? ⟨u37.heap.size, 2, none⟩ = some (.slice (some ⟨g2y, 0, none⟩) l2.length h2y) := (F301.out.blk 3 rfl).cell 2
          have px_lt : u35.heap.size < Z40.heap.size := (F301.out.blk 7 rfl).lt
          have py_lt : u37.heap.size < Z40.heap.size := (F301.out.blk 3 rfl).lt
          go_wp2_with fail
          clear px_0 px_1 px_2 px_lt py_0 py_1 py_2 py_lt
          refine (mrgO J M X (rd_take (F301.out.own 2 rfl).d (by show a.length * 16 ≤ _; omega)) (rd_take (F301.out.own 2 rfl).s (by show l.length * 40 ≤ _; omega)) (rd_take (F301.out.own 1 rfl).d (by show a2.length * 16 ≤ _; omega)) (rd_take (F301.out.own 1 rfl).s (by show l2.length * 40 ≤ _; omega)) rfl rfl rfl rfl (cap_take (own_cap (F301.out.own 2 rfl).d)) (cap_take (own_cap (F301.out.own 1 rfl).d)) HOI.out.str HR2.out E0.out E1.out E2.out E3.out).mono ?_
          rintro e u41 ⟨Ag, Bg, cg, dg, rfl, ho, hb⟩
          have RG_g := Lib.hid (rows2_rng ho)
          have mn42 : Z40.heap.size ≤ u41.heap.size := Below.size hb
          have F302 := Lib.hid (F301.out.below hb)
          clear F301
          have F303 := Lib.hid (F302.out.addO (ho))
          clear F302
          replace BB := Lib.hid (bl_then BB.out hb)
          clear hb
          clear ho
          have p9_0 : u41.cell? ⟨u35.heap.size + 1 + 1, 0, none⟩ = some (.string ⟨#[]⟩) := (F303.out.blk 6 rfl).cell 0
          have p9_1 : u41.cell? ⟨u35.heap.size + 1 + 1, 1, none⟩ = some (.slice none 0 0) := (F303.out.blk 6 rfl).cell 1
          have p9_2 : u41.cell? ⟨u35.heap.size + 1 + 1, 2, none⟩ = some (.slice none 0 0) := (F303.out.blk 6 rfl).cell 2
          have p9_lt : u35.heap.size + 1 + 1 < u41.heap.size := (F303.out.blk 6 rfl).lt
          have p9_f0 := (F303.out.blk 6 rfl).frozen 0
          have p9_f1 := (F303.out.blk 6 rfl).frozen 1
          have p9_f2 := (F303.out.blk 6 rfl).frozen 2
          go_upto_region 14 with fail
          clear p9_0 p9_1 p9_2 p9_lt
          clear p9_f0 p9_f1 p9_f2
          obtain ⟨Z42, hZ42⟩ : ∃ W : World, W = (((u41.setCell ⟨u35.heap.size + 1 + 1, 0, none⟩ (.string kk)).setCell ⟨u35.heap.size + 1 + 1, 1, none⟩ (.slice Ag J.length cg)).setCell ⟨u35.heap.size + 1 + 1, 2, none⟩ (.slice Bg M.length dg)) := ⟨_, rfl⟩
          rw [← hZ42]
          have hch : Chg (fun k => k = u35.heap.size + 1 + 1) u41 Z42 := by rw [hZ42]; exact chg_set3 _ _ _ _ _
          have XN : Hid (GR.Blk Z42 (u35.heap.size + 1 + 1) 27 #[.string kk, .slice Ag J.length cg, .slice Bg M.length dg]) := Lib.hid (by rw [hZ42]; exact blk_set3 (F303.out.blk 6 rfl))
          have mn43 : u41.heap.size ≤ Z42.heap.size := hch.size
          have BC : Below v0.heap.size u41 Z42 := hch.below BB.out.size (fun k e => by subst e; omega)
          replace BB := Lib.hid (BB.out.trans BC)
          clear hZ42 BC
          have X_ps := Lib.hid (blk_ne (F303.out.blk 9 rfl) hch (by omega))
          have X_px := Lib.hid (blk_ne (F303.out.blk 8 rfl) hch (by omega))
          have X_p8 := Lib.hid (blk_ne (F303.out.blk 7 rfl) hch (by omega))
          have X_p9 := Lib.hid (XN.out)
          have X_p10 := Lib.hid (blk_ne (F303.out.blk 5 rfl) hch (by omega))
          have X_py := Lib.hid (blk_ne (F303.out.blk 4 rfl) hch (by omega))
          have Y_x := Lib.hid (owns_blk (F303.out.own 3 rfl) (F303.out.blk 6 rfl) hch)
          have Y_y := Lib.hid (owns_blk (F303.out.own 2 rfl) (F303.out.blk 6 rfl) hch)
          have Y_w := Lib.hid (owns_blk (F303.out.own 1 rfl) (F303.out.blk 6 rfl) hch)
          have Y_g := Lib.hid (owns_blk (F303.out.own 0 rfl) (F303.out.blk 6 rfl) hch)
          have F304 := Lib.hid (HS.nil Z42)
          have F305 := Lib.hid (HS.addB F304.out (g := w.heap.size) (t := 27) (cs := #[.string ko, .slice A a.length c, .slice B l.length d]) (HPO.out.below BB.out HPO.out.lt))
          clear F304
          have F306 := Lib.hid (F305.out.addR (HOI.out.ra.below BB.out))
          clear F305
          have F307 := Lib.hid (F306.out.addR (HOI.out.rl.below BB.out))
          clear F306
          have F308 := Lib.hid (F307.out.addR (HST.out.1.1.below BB.out))
          clear F307
          have F309 := Lib.hid (F308.out.addR (HST.out.2.2.1.below BB.out))
          clear F308
          have F310 := Lib.hid (F309.out.addR (HST.out.2.2.2.1.below BB.out))
          clear F309
          have F311 := Lib.hid (HS.addB F310.out (g := v0.heap.size) (t := 31) (cs := #[.bool true, .slice E x.length xc, .int .u32 act, .string val, .bool gone, .string key, .slice A2 a2.length ac, .slice B2 l2.length lc]) (X_ps.out))
          clear F310
          have F312 := Lib.hid (HS.addB F311.out (g := u35.heap.size) (t := 27) (cs := #[.string ko, .slice (some ⟨g1x, 0, none⟩) a.length h1x, .slice (some ⟨g2x, 0, none⟩) l.length h2x]) (X_px.out))
          clear F311
          have F313 := Lib.hid (HS.addB F312.out (g := u35.heap.size + 1) (t := 27) (cs := #[.string kk, .slice Aw J.length cw, .slice Bw M.length dw]) (X_p8.out))
          clear F312
          have F314 := Lib.hid (HS.addB F313.out (g := u35.heap.size + 1 + 1) (t := 27) (cs := #[.string kk, .slice Ag J.length cg, .slice Bg M.length dg]) (X_p9.out))
          clear F313
          have F315 := Lib.hid (HS.addB F314.out (g := u35.heap.size + 1 + 1 + 1) (t := 27) (cs := #[.string ⟨#[]⟩, .slice none 0 0, .slice none 0 0]) (X_p10.out))
          clear F314
          have F316 := Lib.hid (HS.addB F315.out (g := u37.heap.size) (t := 27) (cs := #[.string key, .slice (some ⟨g1y, 0, none⟩) a2.length h1y, .slice (some ⟨g2y, 0, none⟩) l2.length h2y]) (X_py.out))
          clear F315
          have F317 := Lib.hid (F316.out.addO (Y_x.out))
          clear F316
          have F318 := Lib.hid (F317.out.addO (Y_y.out))
          clear F317
          have F319 := Lib.hid (F318.out.addO (Y_w.out))
          clear F318
          have F320 := Lib.hid (F319.out.addO (Y_g.out))
          clear F319
          clear F303 X_ps X_px X_p8 X_p9 X_p10 X_py Y_x Y_y Y_w Y_g
          clear hch XN
          have px_0 : Z42.cell? ⟨u35.heap.size, 0, none⟩ = some (.string ko) := (F320.out.blk 8 rfl).cell 0
          have px_1 : Z42.cell? ⟨u35.heap.size, 1, none⟩ = some (.slice (some ⟨g1x, 0, none⟩) a.length h1x) := (F320.out.blk 8 rfl).cell 1
          have px_2 : Z42.cell? ⟨u35.heap.size, 2, none⟩ = some (.slice (some ⟨g2x, 0, none⟩) l.length h2x) := (F320.out.blk 8 rfl).cell 2
          have py_0 : Z42.cell? ⟨u37.heap.size, 0, none⟩ = some (.string key) := (F320.out.blk 4 rfl).cell 0
          have py_1 : Z42.cell? ⟨u37.heap.size, 1, none⟩ = some (.slice (some ⟨g1y, 0, none⟩) a2.length h1y) := (F320.out.blk 4 rfl).cell 1
          have py_2 : Z42.cell? ⟨u37.heap.size, 2, none⟩ = some (.slice (some ⟨g2y, 0, none⟩) l2.length h2y) := (F320.out.blk 4 rfl).cell 2
          have px_lt : u35.heap.size < Z42.heap.size := (F320.out.blk 8 rfl).lt
          have py_lt : u37.heap.size < Z42.heap.size := (F320.out.blk 4 rfl).lt
          go_wp2_with fail
          clear px_0 px_1 px_2 px_lt py_0 py_1 py_2 py_lt
          refine (mrgO J M X (rd_take (F320.out.own 3 rfl).d (by show a.length * 16 ≤ _; omega)) (rd_take (F320.out.own 3 rfl).s (by show l.length * 40 ≤ _; omega)) (rd_take (F320.out.own 2 rfl).d (by show a2.length * 16 ≤ _; omega)) (rd_take (F320.out.own 2 rfl).s (by show l2.length * 40 ≤ _; omega)) rfl rfl rfl rfl (cap_take (own_cap (F320.out.own 3 rfl).d)) (cap_take (own_cap (F320.out.own 2 rfl).d)) HOI.out.str HR2.out E0.out E1.out E2.out E3.out).mono ?_
          rintro e u43 ⟨An, Bn, cn, dn, rfl, ho, hb⟩
          have RG_n := Lib.hid (rows2_rng ho)
          have mn44 : Z42.heap.size ≤ u43.heap.size := Below.size hb
          have F321 := Lib.hid (F320.out.below hb)
          clear F320
          have F322 := Lib.hid (F321.out.addO (ho))
          clear F321
          replace BB := Lib.hid (bl_then BB.out hb)
          clear hb
          clear ho
          have p10_0 : u43.cell? ⟨u35.heap.size + 1 + 1 + 1, 0, none⟩ = some (.string ⟨#[]⟩) := (F322.out.blk 6 rfl).cell 0
          have p10_1 : u43.cell? ⟨u35.heap.size + 1 + 1 + 1, 1, none⟩ = some (.slice none 0 0) := (F322.out.blk 6 rfl).cell 1
          have p10_2 : u43.cell? ⟨u35.heap.size + 1 + 1 + 1, 2, none⟩ = some (.slice none 0 0) := (F322.out.blk 6 rfl).cell 2
          have p10_lt : u35.heap.size + 1 + 1 + 1 < u43.heap.size := (F322.out.blk 6 rfl).lt
          have p10_f0 := (F322.out.blk 6 rfl).frozen 0
          have p10_f1 := (F322.out.blk 6 rfl).frozen 1
          have p10_f2 := (F322.out.blk 6 rfl).frozen 2
          go_upto_region 15 with fail
          clear p10_0 p10_1 p10_2 p10_lt
          clear p10_f0 p10_f1 p10_f2
          obtain ⟨Z44, hZ44⟩ : ∃ W : World, W = (((u43.setCell ⟨u35.heap.size + 1 + 1 + 1, 0, none⟩ (.string kk)).setCell ⟨u35.heap.size + 1 + 1 + 1, 1, none⟩ (.slice An J.length cn)).setCell ⟨u35.heap.size + 1 + 1 + 1, 2, none⟩ (.slice Bn M.length dn)) := ⟨_, rfl⟩
          rw [← hZ44]
          have hch : Chg (fun k => k = u35.heap.size + 1 + 1 + 1) u43 Z44 := by rw [hZ44]; exact chg_set3 _ _ _ _ _
          have XN : Hid (GR.Blk Z44 (u35.heap.size + 1 + 1 + 1) 27 #[.string kk, .slice An J.length cn, .slice Bn M.length dn]) := Lib.hid (by rw [hZ44]; exact blk_set3 (F322.out.blk 6 rfl))
          have mn45 : u43.heap.size ≤ Z44.heap.size := hch.size
          have BC : Below v0.heap.size u43 Z44 := hch.below BB.out.size (fun k e => by subst e; omega)
          replace BB := Lib.hid (BB.out.trans BC)
          clear hZ44 BC
          have X_ps := Lib.hid (blk_ne (F322.out.blk 10 rfl) hch (by omega))
          have X_px := Lib.hid (blk_ne (F322.out.blk 9 rfl) hch (by omega))
          have X_p8 := Lib.hid (blk_ne (F322.out.blk 8 rfl) hch (by omega))
          have X_p9 := Lib.hid (blk_ne (F322.out.blk 7 rfl) hch (by omega))
          have X_p10 := Lib.hid (XN.out)
          have X_py := Lib.hid (blk_ne (F322.out.blk 5 rfl) hch (by omega))
          have Y_x := Lib.hid (owns_blk (F322.out.own 4 rfl) (F322.out.blk 6 rfl) hch)
          have Y_y := Lib.hid (owns_blk (F322.out.own 3 rfl) (F322.out.blk 6 rfl) hch)
          have Y_w := Lib.hid (owns_blk (F322.out.own 2 rfl) (F322.out.blk 6 rfl) hch)
          have Y_g := Lib.hid (owns_blk (F322.out.own 1 rfl) (F322.out.blk 6 rfl) hch)
          have Y_n := Lib.hid (owns_blk (F322.out.own 0 rfl) (F322.out.blk 6 rfl) hch)
          have F323 := Lib.hid (HS.nil Z44)
          have F324 := Lib.hid (HS.addB F323.out (g := w.heap.size) (t := 27) (cs := #[.string ko, .slice A a.length c, .slice B l.length d]) (HPO.out.below BB.out HPO.out.lt))
          clear F323
          have F325 := Lib.hid (F324.out.addR (HOI.out.ra.below BB.out))
          clear F324
          have F326 := Lib.hid (F325.out.addR (HOI.out.rl.below BB.out))
          clear F325
          have F327 := Lib.hid (F326.out.addR (HST.out.1.1.below BB.out))
          clear F326
          have F328 := Lib.hid (F327.out.addR (HST.out.2.2.1.below BB.out))
          clear F327
          have F329 := Lib.hid (F328.out.addR (HST.out.2.2.2.1.below BB.out))
          clear F328
          have F330 := Lib.hid (HS.addB F329.out (g := v0.heap.size) (t := 31) (cs := #[.bool true, .slice E x.length xc, .int .u32 act, .string val, .bool gone, .string key, .slice A2 a2.length ac, .slice B2 l2.length lc]) (X_ps.out))
          clear F329
          have F331 := Lib.hid (HS.addB F330.out (g := u35.heap.size) (t := 27) (cs := #[.string ko, .slice (some ⟨g1x, 0, none⟩) a.length h1x, .slice (some ⟨g2x, 0, none⟩) l.length h2x]) (X_px.out))
          clear F330
          have F332 := Lib.hid (HS.addB F331.out (g := u35.heap.size + 1) (t := 27) (cs := #[.string kk, .slice Aw J.length cw, .slice Bw M.length dw]) (X_p8.out))
          clear F331
          have F333 := Lib.hid (HS.addB F332.out (g := u35.heap.size + 1 + 1) (t := 27) (cs := #[.string kk, .slice Ag J.length cg, .slice Bg M.length dg]) (X_p9.out))
          clear F332
          have F334 := Lib.hid (HS.addB F333.out (g := u35.heap.size + 1 + 1 + 1) (t := 27) (cs := #[.string kk, .slice An J.length cn, .slice Bn M.length dn]) (X_p10.out))
          clear F333
          have F335 := Lib.hid (HS.addB F334.out (g := u37.heap.size) (t := 27) (cs := #[.string key, .slice (some ⟨g1y, 0, none⟩) a2.length h1y, .slice (some ⟨g2y, 0, none⟩) l2.length h2y]) (X_py.out))
          clear F334
          have F336 := Lib.hid (F335.out.addO (Y_x.out))
          clear F335
          have F337 := Lib.hid (F336.out.addO (Y_y.out))
          clear F336
          have F338 := Lib.hid (F337.out.addO (Y_w.out))
          clear F337
          have F339 := Lib.hid (F338.out.addO (Y_g.out))
          clear F338
          have F340 := Lib.hid (F339.out.addO (Y_n.out))
          clear F339
          clear F322 X_ps X_px X_p8 X_p9 X_p10 X_py Y_x Y_y Y_w Y_g Y_n
          clear hch XN
          have py_0 : Z44.cell? ⟨u37.heap.size, 0, none⟩ = some (.string key) := (F340.out.blk 5 rfl).cell 0
          have py_1 : Z44.cell? ⟨u37.heap.size, 1, none⟩ = some (.slice (some ⟨g1y, 0, none⟩) a2.length h1y) := (F340.out.blk 5 rfl).cell 1
          have py_2 : Z44.cell? ⟨u37.heap.size, 2, none⟩ = some (.slice (some ⟨g2y, 0, none⟩) l2.length h2y) := (F340.out.blk 5 rfl).cell 2
          have ps_0 : Z44.cell? ⟨v0.heap.size, 0, none⟩ = some (.bool true) := (F340.out.blk 10 rfl).cell 0
          have ps_1 : Z44.cell? ⟨v0.heap.size, 1, none⟩ = some (.slice E x.length xc) := (F340.out.blk 10 rfl).cell 1
          have ps_2 : Z44.cell? ⟨v0.heap.size, 2, none⟩ = some (.int .u32 act) := (F340.out.blk 10 rfl).cell 2
          have ps_3 : Z44.cell? ⟨v0.heap.size, 3, none⟩ = some (.string val) := (F340.out.blk 10 rfl).cell 3
          have ps_4 : Z44.cell? ⟨v0.heap.size, 4, none⟩ = some (.bool gone) := (F340.out.blk 10 rfl).cell 4
          have ps_5 : Z44.cell? ⟨v0.heap.size, 5, none⟩ = some (.string key) := (F340.out.blk 10 rfl).cell 5
          have ps_6 : Z44.cell? ⟨v0.heap.size, 6, none⟩ = some (.slice A2 a2.length ac) := (F340.out.blk 10 rfl).cell 6
          have ps_7 : Z44.cell? ⟨v0.heap.size, 7, none⟩ = some (.slice B2 l2.length lc) := (F340.out.blk 10 rfl).cell 7
          have py_lt : u37.heap.size < Z44.heap.size := (F340.out.blk 5 rfl).lt
          have ps_lt : v0.heap.size < Z44.heap.size := (F340.out.blk 10 rfl).lt
          go_wp2_with fail
          clear py_0 py_1 py_2 py_lt ps_0 ps_1 ps_2 ps_3 ps_4 ps_5 ps_6 ps_7 ps_lt
          refine (kept_any _ key g1y g2y h1y h2y A2 B2 ac lc a2 l2 _ (F340.out.own 3 rfl) (F340.out.rd 12 rfl) (F340.out.rd 11 rfl) sa2 sl2).mono ?_
          rintro e u45 ⟨rfl, hb⟩
          have mn46 : Z44.heap.size ≤ u45.heap.size := Below.size hb
          have F341 := Lib.hid (F340.out.below hb)
          clear F340
          replace BB := Lib.hid (bl_then BB.out hb)
          clear hb
          have py_0 : u45.cell? ⟨u37.heap.size, 0, none⟩ = some (.string key) := (F341.out.blk 5 rfl).cell 0
          have py_1 : u45.cell? ⟨u37.heap.size, 1, none⟩ = some (.slice (some ⟨g1y, 0, none⟩) a2.length h1y) := (F341.out.blk 5 rfl).cell 1
          have py_2 : u45.cell? ⟨u37.heap.size, 2, none⟩ = some (.slice (some ⟨g2y, 0, none⟩) l2.length h2y) := (F341.out.blk 5 rfl).cell 2
          have py_lt : u37.heap.size < u45.heap.size := (F341.out.blk 5 rfl).lt
          go_wp2_with fail
          clear py_0 py_1 py_2 py_lt
          refine (lspoil_any _ key _ _ _ a2 l2 _ ⟨(F341.out.own 3 rfl).d.take, (F341.out.own 3 rfl).s.take⟩ (by omega) sa2 sl2).mono ?_
          rintro e u46 ⟨⟨r46, rfl, hr40⟩, hch⟩
          have r40 : decide (r46 < 40) = false := decide_eq_false (by omega)
          have mn47 : u45.heap.size ≤ u46.heap.size := hch.size
          have BC : Below v0.heap.size u45 u46 := hch.below BB.out.size (fun k hk => Nat.le_trans (by omega) (RG_y.out k hk).1)
          replace BB := Lib.hid (BB.out.trans BC)
          clear BC
          have X_ps := Lib.hid (blk_farT (F341.out.blk 10 rfl) ⟨(F341.out.own 3 rfl).d.take, (F341.out.own 3 rfl).s.take⟩ hch)
          have X_px := Lib.hid (blk_farT (F341.out.blk 9 rfl) ⟨(F341.out.own 3 rfl).d.take, (F341.out.own 3 rfl).s.take⟩ hch)
          have X_p8 := Lib.hid (blk_farT (F341.out.blk 8 rfl) ⟨(F341.out.own 3 rfl).d.take, (F341.out.own 3 rfl).s.take⟩ hch)
          have X_p9 := Lib.hid (blk_farT (F341.out.blk 7 rfl) ⟨(F341.out.own 3 rfl).d.take, (F341.out.own 3 rfl).s.take⟩ hch)
          have X_p10 := Lib.hid (blk_farT (F341.out.blk 6 rfl) ⟨(F341.out.own 3 rfl).d.take, (F341.out.own 3 rfl).s.take⟩ hch)
          have X_py := Lib.hid (blk_farT (F341.out.blk 5 rfl) ⟨(F341.out.own 3 rfl).d.take, (F341.out.own 3 rfl).s.take⟩ hch)
          have Y_x := Lib.hid (owns_apart (F341.out.own 4 rfl) hch RG_x.out (fun k hk => RG_y.out k hk) (by omega))
          have Y_w := Lib.hid (owns_apart (F341.out.own 2 rfl) hch RG_w.out (fun k hk => RG_y.out k hk) (by omega))
          have Y_g := Lib.hid (owns_apart (F341.out.own 1 rfl) hch RG_g.out (fun k hk => RG_y.out k hk) (by omega))
          have Y_n := Lib.hid (owns_apart (F341.out.own 0 rfl) hch RG_n.out (fun k hk => RG_y.out k hk) (by omega))
          have F342 := Lib.hid (HS.nil u46)
          have F343 := Lib.hid (HS.addB F342.out (g := w.heap.size) (t := 27) (cs := #[.string ko, .slice A a.length c, .slice B l.length d]) (HPO.out.below BB.out HPO.out.lt))
          clear F342
          have F344 := Lib.hid (F343.out.addR (HOI.out.ra.below BB.out))
          clear F343
          have F345 := Lib.hid (F344.out.addR (HOI.out.rl.below BB.out))
          clear F344
          have F346 := Lib.hid (F345.out.addR (HST.out.1.1.below BB.out))
          clear F345
          have F347 := Lib.hid (F346.out.addR (HST.out.2.2.1.below BB.out))
          clear F346
          have F348 := Lib.hid (F347.out.addR (HST.out.2.2.2.1.below BB.out))
          clear F347
          have F349 := Lib.hid (HS.addB F348.out (g := v0.heap.size) (t := 31) (cs := #[.bool true, .slice E x.length xc, .int .u32 act, .string val, .bool gone, .string key, .slice A2 a2.length ac, .slice B2 l2.length lc]) (X_ps.out))
          clear F348
          have F350 := Lib.hid (HS.addB F349.out (g := u35.heap.size) (t := 27) (cs := #[.string ko, .slice (some ⟨g1x, 0, none⟩) a.length h1x, .slice (some ⟨g2x, 0, none⟩) l.length h2x]) (X_px.out))
          clear F349
          have F351 := Lib.hid (HS.addB F350.out (g := u35.heap.size + 1) (t := 27) (cs := #[.string kk, .slice Aw J.length cw, .slice Bw M.length dw]) (X_p8.out))
          clear F350
          have F352 := Lib.hid (HS.addB F351.out (g := u35.heap.size + 1 + 1) (t := 27) (cs := #[.string kk, .slice Ag J.length cg, .slice Bg M.length dg]) (X_p9.out))
          clear F351
          have F353 := Lib.hid (HS.addB F352.out (g := u35.heap.size + 1 + 1 + 1) (t := 27) (cs := #[.string kk, .slice An J.length cn, .slice Bn M.length dn]) (X_p10.out))
          clear F352
          have F354 := Lib.hid (HS.addB F353.out (g := u37.heap.size) (t := 27) (cs := #[.string key, .slice (some ⟨g1y, 0, none⟩) a2.length h1y, .slice (some ⟨g2y, 0, none⟩) l2.length h2y]) (X_py.out))
          clear F353
          have F355 := Lib.hid (F354.out.addO (Y_x.out))
          clear F354
          have F356 := Lib.hid (F355.out.addO (Y_w.out))
          clear F355
          have F357 := Lib.hid (F356.out.addO (Y_g.out))
          clear F356
          have F358 := Lib.hid (F357.out.addO (Y_n.out))
          clear F357
          clear F341 X_ps X_px X_p8 X_p9 X_p10 X_py Y_x Y_w Y_g Y_n
          clear hch hr40
          have p9_0 : u46.cell? ⟨u35.heap.size + 1 + 1, 0, none⟩ = some (.string kk) := (F358.out.blk 6 rfl).cell 0
          have p9_1 : u46.cell? ⟨u35.heap.size + 1 + 1, 1, none⟩ = some (.slice Ag J.length cg) := (F358.out.blk 6 rfl).cell 1
          have p9_2 : u46.cell? ⟨u35.heap.size + 1 + 1, 2, none⟩ = some (.slice Bg M.length dg) := (F358.out.blk 6 rfl).cell 2
          have p8_0 : u46.cell? ⟨u35.heap.size + 1, 0, none⟩ = some (.string kk) := (F358.out.blk 7 rfl).cell 0
          have p8_1 : u46.cell? ⟨u35.heap.size + 1, 1, none⟩ = some (.slice Aw J.length cw) := (F358.out.blk 7 rfl).cell 1
          have p8_2 : u46.cell? ⟨u35.heap.size + 1, 2, none⟩ = some (.slice Bw M.length dw) := (F358.out.blk 7 rfl).cell 2
          have p9_lt : u35.heap.size + 1 + 1 < u46.heap.size := (F358.out.blk 6 rfl).lt
          have p8_lt : u35.heap.size + 1 < u46.heap.size := (F358.out.blk 7 rfl).lt
          go_wp2_with fail
          clear p9_0 p9_1 p9_2 p9_lt p8_0 p8_1 p8_2 p8_lt
          refine (lsameq true ((F358.out.own 1 rfl).d.rd jj).2.2 ((F358.out.own 1 rfl).s.rd jm).2.2 ((F358.out.own 2 rfl).d.rd jj).2.2 ((F358.out.own 2 rfl).s.rd jm).2.2 rfl rfl rfl rfl (okself _ _ _)).mono ?_
          rintro e u47 ⟨rfl, hb⟩
          have mn48 : u46.heap.size ≤ u47.heap.size := Below.size hb
          have F359 := Lib.hid (F358.out.below hb)
          clear F358
          replace BB := Lib.hid (bl_then BB.out hb)
          clear hb
          have p10_0 : u47.cell? ⟨u35.heap.size + 1 + 1 + 1, 0, none⟩ = some (.string kk) := (F359.out.blk 5 rfl).cell 0
          have p10_1 : u47.cell? ⟨u35.heap.size + 1 + 1 + 1, 1, none⟩ = some (.slice An J.length cn) := (F359.out.blk 5 rfl).cell 1
          have p10_2 : u47.cell? ⟨u35.heap.size + 1 + 1 + 1, 2, none⟩ = some (.slice Bn M.length dn) := (F359.out.blk 5 rfl).cell 2
          have p8_0 : u47.cell? ⟨u35.heap.size + 1, 0, none⟩ = some (.string kk) := (F359.out.blk 7 rfl).cell 0
          have p8_1 : u47.cell? ⟨u35.heap.size + 1, 1, none⟩ = some (.slice Aw J.length cw) := (F359.out.blk 7 rfl).cell 1
          have p8_2 : u47.cell? ⟨u35.heap.size + 1, 2, none⟩ = some (.slice Bw M.length dw) := (F359.out.blk 7 rfl).cell 2
          have p10_lt : u35.heap.size + 1 + 1 + 1 < u47.heap.size := (F359.out.blk 5 rfl).lt
          have p8_lt : u35.heap.size + 1 < u47.heap.size := (F359.out.blk 7 rfl).lt
          go_wp2_with fail
          clear p10_0 p10_1 p10_2 p10_lt p8_0 p8_1 p8_2 p8_lt
          refine (lsameq true ((F359.out.own 0 rfl).d.rd jj).2.2 ((F359.out.own 0 rfl).s.rd jm).2.2 ((F359.out.own 2 rfl).d.rd jj).2.2 ((F359.out.own 2 rfl).s.rd jm).2.2 rfl rfl rfl rfl (okself _ _ _)).mono ?_
          rintro e u48 ⟨rfl, hb⟩
          have mn49 : u47.heap.size ≤ u48.heap.size := Below.size hb
          have F360 := Lib.hid (F359.out.below hb)
          clear F359
          replace BB := Lib.hid (bl_then BB.out hb)
          clear hb
          have px_0 : u48.cell? ⟨u35.heap.size, 0, none⟩ = some (.string ko) := (F360.out.blk 8 rfl).cell 0
          have px_1 : u48.cell? ⟨u35.heap.size, 1, none⟩ = some (.slice (some ⟨g1x, 0, none⟩) a.length h1x) := (F360.out.blk 8 rfl).cell 1
          have px_2 : u48.cell? ⟨u35.heap.size, 2, none⟩ = some (.slice (some ⟨g2x, 0, none⟩) l.length h2x) := (F360.out.blk 8 rfl).cell 2
          have po_0 : u48.cell? ⟨w.heap.size, 0, none⟩ = some (.string ko) := (F360.out.blk 15 rfl).cell 0
          have po_1 : u48.cell? ⟨w.heap.size, 1, none⟩ = some (.slice A a.length c) := (F360.out.blk 15 rfl).cell 1
          have po_2 : u48.cell? ⟨w.heap.size, 2, none⟩ = some (.slice B l.length d) := (F360.out.blk 15 rfl).cell 2
          have px_lt : u35.heap.size < u48.heap.size := (F360.out.blk 8 rfl).lt
          have po_lt : w.heap.size < u48.heap.size := (F360.out.blk 15 rfl).lt
          go_wp2_with fail
          clear px_0 px_1 px_2 px_lt po_0 po_1 po_2 po_lt
          refine (kept_any _ ko g1x g2x h1x h2x A B c d a l _ (F360.out.own 3 rfl) (F360.out.rd 14 rfl) (F360.out.rd 13 rfl) sa sl).mono ?_
          rintro e u49 ⟨rfl, hb⟩
          have mn50 : u48.heap.size ≤ u49.heap.size := Below.size hb
          have F361 := Lib.hid (F360.out.below hb)
          clear F360
          replace BB := Lib.hid (bl_then BB.out hb)
          clear hb
          have p9_0 : u49.cell? ⟨u35.heap.size + 1 + 1, 0, none⟩ = some (.string kk) := (F361.out.blk 6 rfl).cell 0
          have p9_1 : u49.cell? ⟨u35.heap.size + 1 + 1, 1, none⟩ = some (.slice Ag J.length cg) := (F361.out.blk 6 rfl).cell 1
          have p9_2 : u49.cell? ⟨u35.heap.size + 1 + 1, 2, none⟩ = some (.slice Bg M.length dg) := (F361.out.blk 6 rfl).cell 2
          have p9_lt : u35.heap.size + 1 + 1 < u49.heap.size := (F361.out.blk 6 rfl).lt
          go_wp2_with fail
          clear p9_0 p9_1 p9_2 p9_lt
          refine (lspoil_any _ kk _ _ _ J M _ (F361.out.own 1 rfl) (by omega) jj2 jm2).mono ?_
          rintro e u50 ⟨⟨r50, rfl, hr40⟩, hch⟩
          have r40 : decide (r50 < 40) = false := decide_eq_false (by omega)
          have mn51 : u49.heap.size ≤ u50.heap.size := hch.size
          have BC : Below v0.heap.size u49 u50 := hch.below BB.out.size (fun k hk => Nat.le_trans (by omega) (RG_g.out k hk).1)
          replace BB := Lib.hid (BB.out.trans BC)
          clear BC
          have X_ps := Lib.hid (blk_farT (F361.out.blk 9 rfl) (F361.out.own 1 rfl) hch)
          have X_px := Lib.hid (blk_farT (F361.out.blk 8 rfl) (F361.out.own 1 rfl) hch)
          have X_p8 := Lib.hid (blk_farT (F361.out.blk 7 rfl) (F361.out.own 1 rfl) hch)
          have X_p9 := Lib.hid (blk_farT (F361.out.blk 6 rfl) (F361.out.own 1 rfl) hch)
          have X_p10 := Lib.hid (blk_farT (F361.out.blk 5 rfl) (F361.out.own 1 rfl) hch)
          have X_py := Lib.hid (blk_farT (F361.out.blk 4 rfl) (F361.out.own 1 rfl) hch)
          have Y_x := Lib.hid (owns_apart (F361.out.own 3 rfl) hch RG_x.out (fun k hk => RG_g.out k hk) (by omega))
          have Y_w := Lib.hid (owns_apart (F361.out.own 2 rfl) hch RG_w.out (fun k hk => RG_g.out k hk) (by omega))
          have Y_n := Lib.hid (owns_apart (F361.out.own 0 rfl) hch RG_n.out (fun k hk => RG_g.out k hk) (by omega))
          have F362 := Lib.hid (HS.nil u50)
          have F363 := Lib.hid (HS.addB F362.out (g := w.heap.size) (t := 27) (cs := #[.string ko, .slice A a.length c, .slice B l.length d]) (HPO.out.below BB.out HPO.out.lt))
          clear F362
          have F364 := Lib.hid (F363.out.addR (HOI.out.ra.below BB.out))
          clear F363
          have F365 := Lib.hid (F364.out.addR (HOI.out.rl.below BB.out))
          clear F364
          have F366 := Lib.hid (F365.out.addR (HST.out.1.1.below BB.out))
          clear F365
          have F367 := Lib.hid (F366.out.addR (HST.out.2.2.1.below BB.out))
          clear F366
          have F368 := Lib.hid (F367.out.addR (HST.out.2.2.2.1.below BB.out))
          clear F367
          have F369 := Lib.hid (HS.addB F368.out (g := v0.heap.size) (t := 31) (cs := #[.bool true, .slice E x.length xc, .int .u32 act, .string val, .bool gone, .string key, .slice A2 a2.length ac, .slice B2 l2.length lc]) (X_ps.out))
          clear F368
          have F370 := Lib.hid (HS.addB F369.out (g := u35.heap.size) (t := 27) (cs := #[.string ko, .slice (some ⟨g1x, 0, none⟩) a.length h1x, .slice (some ⟨g2x, 0, none⟩) l.length h2x]) (X_px.out))
          clear F369
          have F371 := Lib.hid (HS.addB F370.out (g := u35.heap.size + 1) (t := 27) (cs := #[.string kk, .slice Aw J.length cw, .slice Bw M.length dw]) (X_p8.out))
          clear F370
          have F372 := Lib.hid (HS.addB F371.out (g := u35.heap.size + 1 + 1) (t := 27) (cs := #[.string kk, .slice Ag J.length cg, .slice Bg M.length dg]) (X_p9.out))
          clear F371
          have F373 := Lib.hid (HS.addB F372.out (g := u35.heap.size + 1 + 1 + 1) (t := 27) (cs := #[.string kk, .slice An J.length cn, .slice Bn M.length dn]) (X_p10.out))
          clear F372
          have F374 := Lib.hid (HS.addB F373.out (g := u37.heap.size) (t := 27) (cs := #[.string key, .slice (some ⟨g1y, 0, none⟩) a2.length h1y, .slice (some ⟨g2y, 0, none⟩) l2.length h2y]) (X_py.out))
          clear F373
          have F375 := Lib.hid (F374.out.addO (Y_x.out))
          clear F374
          have F376 := Lib.hid (F375.out.addO (Y_w.out))
          clear F375
          have F377 := Lib.hid (F376.out.addO (Y_n.out))
          clear F376
          clear F361 X_ps X_px X_p8 X_p9 X_p10 X_py Y_x Y_w Y_n
          clear hch hr40
          have p10_0 : u50.cell? ⟨u35.heap.size + 1 + 1 + 1, 0, none⟩ = some (.string kk) := (F377.out.blk 4 rfl).cell 0
          have p10_1 : u50.cell? ⟨u35.heap.size + 1 + 1 + 1, 1, none⟩ = some (.slice An J.length cn) := (F377.out.blk 4 rfl).cell 1
          have p10_2 : u50.cell? ⟨u35.heap.size + 1 + 1 + 1, 2, none⟩ = some (.slice Bn M.length dn) := (F377.out.blk 4 rfl).cell 2
          have p8_0 : u50.cell? ⟨u35.heap.size + 1, 0, none⟩ = some (.string kk) := (F377.out.blk 6 rfl).cell 0
          have p8_1 : u50.cell? ⟨u35.heap.size + 1, 1, none⟩ = some (.slice Aw J.length cw) := (F377.out.blk 6 rfl).cell 1
          have p8_2 : u50.cell? ⟨u35.heap.size + 1, 2, none⟩ = some (.slice Bw M.length dw) := (F377.out.blk 6 rfl).cell 2
          have p10_lt : u35.heap.size + 1 + 1 + 1 < u50.heap.size := (F377.out.blk 4 rfl).lt
          have p8_lt : u35.heap.size + 1 < u50.heap.size := (F377.out.blk 6 rfl).lt
          go_wp2_with fail
          clear p10_0 p10_1 p10_2 p10_lt p8_0 p8_1 p8_2 p8_lt
          refine (lsameq true ((F377.out.own 0 rfl).d.rd jj).2.2 ((F377.out.own 0 rfl).s.rd jm).2.2 ((F377.out.own 1 rfl).d.rd jj).2.2 ((F377.out.own 1 rfl).s.rd jm).2.2 rfl rfl rfl rfl (okself _ _ _)).mono ?_
          rintro e u51 ⟨rfl, hb⟩
          have mn52 : u50.heap.size ≤ u51.heap.size := Below.size hb
          have F378 := Lib.hid (F377.out.below hb)
          clear F377
          replace BB := Lib.hid (bl_then BB.out hb)
          clear hb
          have px_0 : u51.cell? ⟨u35.heap.size, 0, none⟩ = some (.string ko) := (F378.out.blk 7 rfl).cell 0
          have px_1 : u51.cell? ⟨u35.heap.size, 1, none⟩ = some (.slice (some ⟨g1x, 0, none⟩) a.length h1x) := (F378.out.blk 7 rfl).cell 1
          have px_2 : u51.cell? ⟨u35.heap.size, 2, none⟩ = some (.slice (some ⟨g2x, 0, none⟩) l.length h2x) := (F378.out.blk 7 rfl).cell 2
          have po_0 : u51.cell? ⟨w.heap.size, 0, none⟩ = some (.string ko) := (F378.out.blk 14 rfl).cell 0
          have po_1 : u51.cell? ⟨w.heap.size, 1, none⟩ = some (.slice A a.length c) := (F378.out.blk 14 rfl).cell 1
          have po_2 : u51.cell? ⟨w.heap.size, 2, none⟩ = some (.slice B l.length d) := (F378.out.blk 14 rfl).cell 2
          have px_lt : u35.heap.size < u51.heap.size := (F378.out.blk 7 rfl).lt
          have po_lt : w.heap.size < u51.heap.size := (F378.out.blk 14 rfl).lt
          go_wp2_with fail
          clear px_0 px_1 px_2 px_lt po_0 po_1 po_2 po_lt
          refine (kept_any _ ko g1x g2x h1x h2x A B c d a l _ (F378.out.own 2 rfl) (F378.out.rd 13 rfl) (F378.out.rd 12 rfl) sa sl).mono ?_
          rintro e u52 ⟨rfl, hb⟩
          have mn53 : u51.heap.size ≤ u52.heap.size := Below.size hb
          have F379 := Lib.hid (F378.out.below hb)
          clear F378
          replace BB := Lib.hid (bl_then BB.out hb)
          clear hb
          have ps_0 : u52.cell? ⟨v0.heap.size, 0, none⟩ = some (.bool true) := (F379.out.blk 8 rfl).cell 0
          have ps_1 : u52.cell? ⟨v0.heap.size, 1, none⟩ = some (.slice E x.length xc) := (F379.out.blk 8 rfl).cell 1
          have ps_2 : u52.cell? ⟨v0.heap.size, 2, none⟩ = some (.int .u32 act) := (F379.out.blk 8 rfl).cell 2
          have ps_3 : u52.cell? ⟨v0.heap.size, 3, none⟩ = some (.string val) := (F379.out.blk 8 rfl).cell 3
          have ps_4 : u52.cell? ⟨v0.heap.size, 4, none⟩ = some (.bool gone) := (F379.out.blk 8 rfl).cell 4
          have ps_5 : u52.cell? ⟨v0.heap.size, 5, none⟩ = some (.string key) := (F379.out.blk 8 rfl).cell 5
          have ps_6 : u52.cell? ⟨v0.heap.size, 6, none⟩ = some (.slice A2 a2.length ac) := (F379.out.blk 8 rfl).cell 6
          have ps_7 : u52.cell? ⟨v0.heap.size, 7, none⟩ = some (.slice B2 l2.length lc) := (F379.out.blk 8 rfl).cell 7
          have px_0 : u52.cell? ⟨u35.heap.size, 0, none⟩ = some (.string ko) := (F379.out.blk 7 rfl).cell 0
          have px_1 : u52.cell? ⟨u35.heap.size, 1, none⟩ = some (.slice (some ⟨g1x, 0, none⟩) a.length h1x) := (F379.out.blk 7 rfl).cell 1
          have px_2 : u52.cell? ⟨u35.heap.size, 2, none⟩ = some (.slice (some ⟨g2x, 0, none⟩) l.length h2x) := (F379.out.blk 7 rfl).cell 2
          have ps_lt : v0.heap.size < u52.heap.size := (F379.out.blk 8 rfl).lt
          have px_lt : u35.heap.size < u52.heap.size := (F379.out.blk 7 rfl).lt
          go_wp2_with fail
          clear ps_0 ps_1 ps_2 ps_3 ps_4 ps_5 ps_6 ps_7 ps_lt px_0 px_1 px_2 px_lt
          refine (lspoil_any _ ko _ _ _ a l _ ⟨(F379.out.own 2 rfl).d.take, (F379.out.own 2 rfl).s.take⟩ (by omega) sa sl).mono ?_
          rintro e u53 ⟨⟨r53, rfl, hr40⟩, hch⟩
          have r40 : decide (r53 < 40) = false := decide_eq_false (by omega)
          have mn54 : u52.heap.size ≤ u53.heap.size := hch.size
          have BC : Below v0.heap.size u52 u53 := hch.below BB.out.size (fun k hk => Nat.le_trans (by omega) (RG_x.out k hk).1)
          replace BB := Lib.hid (BB.out.trans BC)
          clear BC
          have X_ps := Lib.hid (blk_farT (F379.out.blk 8 rfl) ⟨(F379.out.own 2 rfl).d.take, (F379.out.own 2 rfl).s.take⟩ hch)
          have X_px := Lib.hid (blk_farT (F379.out.blk 7 rfl) ⟨(F379.out.own 2 rfl).d.take, (F379.out.own 2 rfl).s.take⟩ hch)
          have X_p8 := Lib.hid (blk_farT (F379.out.blk 6 rfl) ⟨(F379.out.own 2 rfl).d.take, (F379.out.own 2 rfl).s.take⟩ hch)
          have X_p9 := Lib.hid (blk_farT (F379.out.blk 5 rfl) ⟨(F379.out.own 2 rfl).d.take, (F379.out.own 2 rfl).s.take⟩ hch)
          have X_p10 := Lib.hid (blk_farT (F379.out.blk 4 rfl) ⟨(F379.out.own 2 rfl).d.take, (F379.out.own 2 rfl).s.take⟩ hch)
          have X_py := Lib.hid (blk_farT (F379.out.blk 3 rfl) ⟨(F379.out.own 2 rfl).d.take, (F379.out.own 2 rfl).s.take⟩ hch)
          have Y_w := Lib.hid (owns_apart (F379.out.own 1 rfl) hch RG_w.out (fun k hk => RG_x.out k hk) (by omega))
          have Y_n := Lib.hid (owns_apart (F379.out.own 0 rfl) hch RG_n.out (fun k hk => RG_x.out k hk) (by omega))
          have F380 := Lib.hid (HS.nil u53)
          have F381 := Lib.hid (HS.addB F380.out (g := w.heap.size) (t := 27) (cs := #[.string ko, .slice A a.length c, .slice B l.length d]) (HPO.out.below BB.out HPO.out.lt))
          clear F380
          have F382 := Lib.hid (F381.out.addR (HOI.out.ra.below BB.out))
          clear F381
          have F383 := Lib.hid (F382.out.addR (HOI.out.rl.below BB.out))
          clear F382
          have F384 := Lib.hid (F383.out.addR (HST.out.1.1.below BB.out))
          clear F383
          have F385 := Lib.hid (F384.out.addR (HST.out.2.2.1.below BB.out))
          clear F384
          have F386 := Lib.hid (F385.out.addR (HST.out.2.2.2.1.below BB.out))
          clear F385
          have F387 := Lib.hid (HS.addB F386.out (g := v0.heap.size) (t := 31) (cs := #[.bool true, .slice E x.length xc, .int .u32 act, .string val, .bool gone, .string key, .slice A2 a2.length ac, .slice B2 l2.length lc]) (X_ps.out))
          clear F386
          have F388 := Lib.hid (HS.addB F387.out (g := u35.heap.size) (t := 27) (cs := #[.string ko, .slice (some ⟨g1x, 0, none⟩) a.length h1x, .slice (some ⟨g2x, 0, none⟩) l.length h2x]) (X_px.out))
          clear F387
          have F389 := Lib.hid (HS.addB F388.out (g := u35.heap.size + 1) (t := 27) (cs := #[.string kk, .slice Aw J.length cw, .slice Bw M.length dw]) (X_p8.out))
          clear F388
          have F390 := Lib.hid (HS.addB F389.out (g := u35.heap.size + 1 + 1) (t := 27) (cs := #[.string kk, .slice Ag J.length cg, .slice Bg M.length dg]) (X_p9.out))
          clear F389
          have F391 := Lib.hid (HS.addB F390.out (g := u35.heap.size + 1 + 1 + 1) (t := 27) (cs := #[.string kk, .slice An J.length cn, .slice Bn M.length dn]) (X_p10.out))
          clear F390
          have F392 := Lib.hid (HS.addB F391.out (g := u37.heap.size) (t := 27) (cs := #[.string key, .slice (some ⟨g1y, 0, none⟩) a2.length h1y, .slice (some ⟨g2y, 0, none⟩) l2.length h2y]) (X_py.out))
          clear F391
          have F393 := Lib.hid (F392.out.addO (Y_w.out))
          clear F392
          have F394 := Lib.hid (F393.out.addO (Y_n.out))
          clear F393
          clear F379 X_ps X_px X_p8 X_p9 X_p10 X_py Y_w Y_n
          clear hch hr40
          have p10_0 : u53.cell? ⟨u35.heap.size + 1 + 1 + 1, 0, none⟩ = some (.string kk) := (F394.out.blk 3 rfl).cell 0
          have p10_1 : u53.cell? ⟨u35.heap.size + 1 + 1 + 1, 1, none⟩ = some (.slice An J.length cn) := (F394.out.blk 3 rfl).cell 1
          have p10_2 : u53.cell? ⟨u35.heap.size + 1 + 1 + 1, 2, none⟩ = some (.slice Bn M.length dn) := (F394.out.blk 3 rfl).cell 2
          have p8_0 : u53.cell? ⟨u35.heap.size + 1, 0, none⟩ = some (.string kk) := (F394.out.blk 5 rfl).cell 0
          have p8_1 : u53.cell? ⟨u35.heap.size + 1, 1, none⟩ = some (.slice Aw J.length cw) := (F394.out.blk 5 rfl).cell 1
          have p8_2 : u53.cell? ⟨u35.heap.size + 1, 2, none⟩ = some (.slice Bw M.length dw) := (F394.out.blk 5 rfl).cell 2
          have p10_lt : u35.heap.size + 1 + 1 + 1 < u53.heap.size := (F394.out.blk 3 rfl).lt
          have p8_lt : u35.heap.size + 1 < u53.heap.size := (F394.out.blk 5 rfl).lt
          go_wp2_with fail
          clear p10_0 p10_1 p10_2 p10_lt p8_0 p8_1 p8_2 p8_lt
          refine (lsameq true ((F394.out.own 0 rfl).d.rd jj).2.2 ((F394.out.own 0 rfl).s.rd jm).2.2 ((F394.out.own 1 rfl).d.rd jj).2.2 ((F394.out.own 1 rfl).s.rd jm).2.2 rfl rfl rfl rfl (okself _ _ _)).mono ?_
          rintro e u54 ⟨rfl, hb⟩
          have mn55 : u53.heap.size ≤ u54.heap.size := Below.size hb
          have F395 := Lib.hid (F394.out.below hb)
          clear F394
          replace BB := Lib.hid (bl_then BB.out hb)
          clear hb
          by_cases hX : X = 0
          · have hx1 : (X == 0) = true := by simpa using hX
            have hx2 : decide (X = 0) = true := decide_eq_true hX
            have HCK := Lib.hid (HEND.out hX)
            clear hX
            have p8_0 : u54.cell? ⟨u35.heap.size + 1, 0, none⟩ = some (.string kk) := (F395.out.blk 5 rfl).cell 0
            have p8_1 : u54.cell? ⟨u35.heap.size + 1, 1, none⟩ = some (.slice Aw J.length cw) := (F395.out.blk 5 rfl).cell 1
            have p8_2 : u54.cell? ⟨u35.heap.size + 1, 2, none⟩ = some (.slice Bw M.length dw) := (F395.out.blk 5 rfl).cell 2
            have po_0 : u54.cell? ⟨w.heap.size, 0, none⟩ = some (.string ko) := (F395.out.blk 13 rfl).cell 0
            have po_1 : u54.cell? ⟨w.heap.size, 1, none⟩ = some (.slice A a.length c) := (F395.out.blk 13 rfl).cell 1
            have po_2 : u54.cell? ⟨w.heap.size, 2, none⟩ = some (.slice B l.length d) := (F395.out.blk 13 rfl).cell 2
            have p8_lt : u35.heap.size + 1 < u54.heap.size := (F395.out.blk 5 rfl).lt
            have po_lt : w.heap.size < u54.heap.size := (F395.out.blk 13 rfl).lt
            have po_f0 := (F395.out.blk 13 rfl).frozen 0
            have po_f1 := (F395.out.blk 13 rfl).frozen 1
            have po_f2 := (F395.out.blk 13 rfl).frozen 2
            have HOW := Lib.hid ((F395.out.own 1 rfl))
            have HBP := Lib.hid ((F395.out.blk 13 rfl))
            go_wp2
            go_roundw
            case rel => exact ⟨k + 1, kk, Aw, Bw, cw, dw, J, M, by omega, by go_num, Lib.hid (blk_set3 HBP.out), Lib.hid (oin_own (ob_put HOW.out HBP.out).1 HCK.out HSTR.out), Lib.hid (by repeat (first | exact bl_then HW.out BB.out | refine Below.setCell ?_ (by show w.heap.size ≤ w.heap.size; exact Nat.le_refl _) _))⟩
            case measure => simp [intOf]; omega
          · have hx1 : (X == 0) = false := by simpa using hX
            have hx2 : decide (X = 0) = false := decide_eq_false hX
            clear hX
            have HBP := Lib.hid ((F395.out.blk 13 rfl))
            go_wp2
            go_roundw
            case rel => exact ⟨k + 1, ko, A, B, c, d, a, l, by omega, by go_num, HBP, Lib.hid (HOI.out.below BB.out), Lib.hid (bl_then HW.out BB.out)⟩
            case measure => simp [intOf]; omega
    · have i1 : ¬ ((k : Int) < (L.length : Int)) := by omega
      have i2 : decide ((k : Int) < (L.length : Int)) = false := decide_eq_false i1
      go_wp2
      exact bodyPost_ret (v := .bool true) (by simp [results, Try.results3, go_sem]) rfl ⟨rfl, HW.out⟩
end Go.Proofs.Ytljfigikkajlnaa
