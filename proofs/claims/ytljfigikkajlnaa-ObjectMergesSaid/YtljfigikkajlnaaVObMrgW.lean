/- DERIVED. ObjectMerges: the walk of the law. -/
import Derived.Test.YtljfigikkajlnaaVObMrgP
import Derived.Deep.Cut
import Derived.Deep.CutRange
namespace Go.Proofs.Ytljfigikkajlnaa
open Go.RowKit Go.Lib Go.Proofs.YtljfigikkajlnaaW.PrintWords
set_option linter.unusedVariables false
set_option linter.unusedSimpArgs false
attribute [local go_sem high] eqD eqCell
theorem sA {α : Type} (l : List α) (i : Nat) (a : α) : l.toArray.setIfInBounds i a = (l.set i a).toArray := List.setIfInBounds_toArray ..
theorem s0 {α : Type} {a b : α} {l : List α} : (a :: l).set 0 b = b :: l := rfl
theorem sS {α : Type} {a b : α} {l : List α} {n : Nat} : (a :: l).set (n + 1) b = a :: l.set n b := rfl
theorem bx_of {W X Y : World} (_ : Below X.heap.size X Y) (h : Below W.heap.size W X) : Below W.heap.size W X := h
theorem blk_up {w0 w1 w2 : World} {g : Nat} {t : TypeId} {cs : Array Value} (h : GR.Blk w0 g t cs) (h1 : Below w0.heap.size w0 w1) (h2 : Below w1.heap.size w1 w2) : GR.Blk w2 g t cs := (h.below h1 h.lt).below h2 (h.below h1 h.lt).lt
set_option maxRecDepth 100000 in
set_option maxHeartbeats 25600000 in
theorem merges_walk (ka kb kc : ByteArray) (A B C D E G : Option Addr) (c1 c2 c3 c4 c5 c6 : Nat) (a b c : List Dot) (l m n : List Sib) (w : World) (ha : GR.Rd dotK w A a) (hl : GR.Rd sibK w B l) (hb : GR.Rd dotK w C b) (hm : GR.Rd sibK w D m) (hc : GR.Rd dotK w E c) (hn : GR.Rd sibK w G n)
 (sa : a.length * 16 ≤ 140737488351232) (sl : l.length * 40 ≤ 140737488351232) (sb : b.length * 16 ≤ 140737488351232) (sm : m.length * 40 ≤ 140737488351232) (sc : c.length * 16 ≤ 140737488351232) (sn : n.length * 40 ≤ 140737488351232) (hr1 : StR a l) (hr2 : StR b m) (hr3 : StR c n) :
 Calls Try.prog 9 #[.agg #[.string ka, .slice A a.length c1, .slice B l.length c2], .agg #[.string kb, .slice C b.length c3, .slice D m.length c4], .agg #[.string kc, .slice E c.length c5, .slice G n.length c6]] w fun e w' => e = .returned (.bool true) ∧ Below w.heap.size w w' := by
 obtain ⟨k12, hk12⟩ : ∃ y, omrgK ka a l kb b m = y := ⟨_, rfl⟩
 obtain ⟨J12, hj12⟩ : ∃ y, omrgA ka a l kb b m = y := ⟨_, rfl⟩
 obtain ⟨M12, hm12⟩ : ∃ y, omrgL ka a l kb b m = y := ⟨_, rfl⟩
 obtain ⟨x12, hx12⟩ : ∃ y, omrgE ka a l kb b m = y := ⟨_, rfl⟩
 have sz12 := mrg_small ka a l kb b m
 rw [hj12, hm12] at sz12
 have ja12 : J12.length * 16 ≤ 140737488355328 := by omega
 have jl12 : M12.length * 40 ≤ 140737488355328 := by omega
 clear sz12
 have E12k := Lib.hid hk12
 have E12j := Lib.hid hj12
 have E12m := Lib.hid hm12
 have E12x := Lib.hid hx12
 clear hk12 hj12 hm12 hx12
 obtain ⟨k21, hk21⟩ : ∃ y, omrgK kb b m ka a l = y := ⟨_, rfl⟩
 obtain ⟨J21, hj21⟩ : ∃ y, omrgA kb b m ka a l = y := ⟨_, rfl⟩
 obtain ⟨M21, hm21⟩ : ∃ y, omrgL kb b m ka a l = y := ⟨_, rfl⟩
 obtain ⟨x21, hx21⟩ : ∃ y, omrgE kb b m ka a l = y := ⟨_, rfl⟩
 have sz21 := mrg_small kb b m ka a l
 rw [hj21, hm21] at sz21
 have ja21 : J21.length * 16 ≤ 140737488355328 := by omega
 have jl21 : M21.length * 40 ≤ 140737488355328 := by omega
 clear sz21
 have E21k := Lib.hid hk21
 have E21j := Lib.hid hj21
 have E21m := Lib.hid hm21
 have E21x := Lib.hid hx21
 clear hk21 hj21 hm21 hx21
 obtain ⟨kaa, hkaa⟩ : ∃ y, omrgK ka a l ka a l = y := ⟨_, rfl⟩
 obtain ⟨Jaa, hjaa⟩ : ∃ y, omrgA ka a l ka a l = y := ⟨_, rfl⟩
 obtain ⟨Maa, hmaa⟩ : ∃ y, omrgL ka a l ka a l = y := ⟨_, rfl⟩
 obtain ⟨xaa, hxaa⟩ : ∃ y, omrgE ka a l ka a l = y := ⟨_, rfl⟩
 have szaa := mrg_small ka a l ka a l
 rw [hjaa, hmaa] at szaa
 have jaaa : Jaa.length * 16 ≤ 140737488355328 := by omega
 have jlaa : Maa.length * 40 ≤ 140737488355328 := by omega
 clear szaa
 have Eaak := Lib.hid hkaa
 have Eaaj := Lib.hid hjaa
 have Eaam := Lib.hid hmaa
 have Eaax := Lib.hid hxaa
 clear hkaa hjaa hmaa hxaa
 obtain ⟨kn, hkn⟩ : ∃ y, omrgK ka a l ka [] [] = y := ⟨_, rfl⟩
 obtain ⟨Jn, hjn⟩ : ∃ y, omrgA ka a l ka [] [] = y := ⟨_, rfl⟩
 obtain ⟨Mn, hmn⟩ : ∃ y, omrgL ka a l ka [] [] = y := ⟨_, rfl⟩
 obtain ⟨xn, hxn⟩ : ∃ y, omrgE ka a l ka [] [] = y := ⟨_, rfl⟩
 have szn := mrg_small ka a l ka [] []
 rw [hjn, hmn] at szn
 have jan : Jn.length * 16 ≤ 140737488355328 := by omega
 have jln : Mn.length * 40 ≤ 140737488355328 := by omega
 clear szn
 have Enk := Lib.hid hkn
 have Enj := Lib.hid hjn
 have Enm := Lib.hid hmn
 have Enx := Lib.hid hxn
 clear hkn hjn hmn hxn
 obtain ⟨k23, hk23⟩ : ∃ y, omrgK kb b m kc c n = y := ⟨_, rfl⟩
 obtain ⟨J23, hj23⟩ : ∃ y, omrgA kb b m kc c n = y := ⟨_, rfl⟩
 obtain ⟨M23, hm23⟩ : ∃ y, omrgL kb b m kc c n = y := ⟨_, rfl⟩
 obtain ⟨x23, hx23⟩ : ∃ y, omrgE kb b m kc c n = y := ⟨_, rfl⟩
 have sz23 := mrg_small kb b m kc c n
 rw [hj23, hm23] at sz23
 have ja23 : J23.length * 16 ≤ 140737488355328 := by omega
 have jl23 : M23.length * 40 ≤ 140737488355328 := by omega
 clear sz23
 have E23k := Lib.hid hk23
 have E23j := Lib.hid hj23
 have E23m := Lib.hid hm23
 have E23x := Lib.hid hx23
 clear hk23 hj23 hm23 hx23
 obtain ⟨ks, hks⟩ : ∃ y, omrgK k12 J12 M12 kc c n = y := ⟨_, rfl⟩
 obtain ⟨Js, hjs⟩ : ∃ y, omrgA k12 J12 M12 kc c n = y := ⟨_, rfl⟩
 obtain ⟨Ms, hms⟩ : ∃ y, omrgL k12 J12 M12 kc c n = y := ⟨_, rfl⟩
 obtain ⟨xs, hxs⟩ : ∃ y, omrgE k12 J12 M12 kc c n = y := ⟨_, rfl⟩
 have szs := mrg_small k12 J12 M12 kc c n
 rw [hjs, hms] at szs
 have jas : Js.length * 16 ≤ 140737488355328 := by omega
 have jls : Ms.length * 40 ≤ 140737488355328 := by omega
 clear szs
 have Esk := Lib.hid hks
 have Esj := Lib.hid hjs
 have Esm := Lib.hid hms
 have Esx := Lib.hid hxs
 clear hks hjs hms hxs
 obtain ⟨kt, hkt⟩ : ∃ y, omrgK ka a l k23 J23 M23 = y := ⟨_, rfl⟩
 obtain ⟨Jt, hjt⟩ : ∃ y, omrgA ka a l k23 J23 M23 = y := ⟨_, rfl⟩
 obtain ⟨Mt, hmt⟩ : ∃ y, omrgL ka a l k23 J23 M23 = y := ⟨_, rfl⟩
 obtain ⟨xt, hxt⟩ : ∃ y, omrgE ka a l k23 J23 M23 = y := ⟨_, rfl⟩
 have szt := mrg_small ka a l k23 J23 M23
 rw [hjt, hmt] at szt
 have jat : Jt.length * 16 ≤ 140737488355328 := by omega
 have jlt : Mt.length * 40 ≤ 140737488355328 := by omega
 clear szt
 have Etk := Lib.hid hkt
 have Etj := Lib.hid hjt
 have Etm := Lib.hid hmt
 have Etx := Lib.hid hxt
 clear hkt hjt hmt hxt
 have R12 := Lib.hid (mrg_str (ka := ka) (kb := kb) hr1 hr2)
 have R23 := Lib.hid (mrg_str (ka := kb) (kb := kc) hr2 hr3)
 have RN : Hid (StR [] []) := Lib.hid ⟨fun d hd => (by cases hd), fun d hd => (by cases hd)⟩
 rw [E12j.out, E12m.out] at R12
 rw [E23j.out, E23m.out] at R23
 obtain ⟨X, hX⟩ : ∃ y, chkE ka a l = y := ⟨_, rfl⟩
 have ESX : Hid (xaa = X ∧ (X = 0 → kaa = ka ∧ Jaa = a ∧ Maa = l)) := Lib.hid (by rw [← hX, ← Eaax.out, ← Eaak.out, ← Eaaj.out, ← Eaam.out]; exact omrg_self)
 have ENX : Hid (xn = X ∧ (X = 0 → kn = ka ∧ Jn = a ∧ Mn = l)) := Lib.hid (by rw [← hX, ← Enx.out, ← Enk.out, ← Enj.out, ← Enm.out]; exact omrg_none)
 have EIF : Hid (x12 = 0 ↔ x21 = 0) := Lib.hid (by rw [← E12x.out, ← E21x.out]; exact omrg_iff)
 have EYES : Hid (x12 = 0 → X = 0 ∧ (decide (k12 = k21) && stEq J12 M12 J21 M21) = true ∧ chkE k12 J12 M12 = 0 ∧ k12 = ka ∧ a.length ≤ J12.length ∧ b.length ≤ J12.length) := Lib.hid (by
  intro h
  have h0 : omrgE ka a l kb b m = 0 := E12x.out.trans h
  obtain ⟨z1, z2, z3, z4, z5⟩ := omrg_zero h0
  obtain ⟨y1, y2, y3⟩ := omrg_comm h0
  obtain ⟨_, w1, w2, w3⟩ := omrg_yes h0
  have w4 := omrg_len h0
  rw [E12k.out, E21k.out] at y1
  rw [E12j.out, E21j.out] at y2
  rw [E12m.out, E21m.out] at y3
  rw [E12k.out] at w1
  rw [E12j.out] at w2 w4
  rw [E12m.out] at w3
  refine ⟨hX.symm.trans z1, ?_, ?_, w1, w4.1, w4.2⟩
  · rw [← y1, ← y2, ← y3]; simp [stEq]
  · rw [w1, w2, w3]; exact z5)
 have EASS : Hid (x12 = 0 → x23 = 0 → xs = 0 → xt = 0 → (decide (ks = kt) && stEq Js Ms Jt Mt) = true) := Lib.hid (by
  intro h1 h2 h3 h4
  have g1 : omrgE ka a l kb b m = 0 := E12x.out.trans h1
  have g2 : omrgE kb b m kc c n = 0 := E23x.out.trans h2
  have g3 : omrgE k12 J12 M12 kc c n = 0 := Esx.out.trans h3
  have g4 : omrgE ka a l k23 J23 M23 = 0 := Etx.out.trans h4
  obtain ⟨_, w1, w2, w3⟩ := omrg_yes g1
  obtain ⟨_, v1, v2, v3⟩ := omrg_yes g2
  obtain ⟨_, u1, u2, u3⟩ := omrg_yes g3
  obtain ⟨_, t1, t2, t3⟩ := omrg_yes g4
  rw [E12k.out] at w1; rw [E12j.out] at w2; rw [E12m.out] at w3
  rw [E23k.out] at v1; rw [E23j.out] at v2; rw [E23m.out] at v3
  rw [Esk.out] at u1; rw [Esj.out] at u2; rw [Esm.out] at u3
  rw [Etk.out] at t1; rw [Etj.out] at t2; rw [Etm.out] at t3
  rw [u1, u2, u3, t1, t2, t3, w1, w2, w3, v2, v3]
  rw [w1, w2, w3] at g3
  rw [v1, v2, v3, ← (omrg_zero g1).2.2.1] at g4
  have z3 := (omrg_zero g1).2.2.1
  subst z3
  exact omrg_assoc g1 g2 g3 g4)
 have HXX := Lib.hid hX
 clear hX
 have HA := Lib.hid ha
 have HL := Lib.hid hl
 have HB := Lib.hid hb
 have HM := Lib.hid hm
 have HC := Lib.hid hc
 have HN := Lib.hid hn
 have HR1 := Lib.hid hr1
 have HR2 := Lib.hid hr2
 have HR3 := Lib.hid hr3
 clear ha hl hb hm hc hn hr1 hr2 hr3
 go_enter Try.func9, Try.ntmps9
 go_wp2_with fail
 obtain ⟨Z1, hZ1⟩ : ∃ W : World, W = ((w.alloc (.cells #[.string ka, .slice A a.length c1, .slice B l.length c2] 27)).alloc (.cells #[.string kb, .slice C b.length c3, .slice D m.length c4] 27)).alloc (.cells #[.string kc, .slice E c.length c5, .slice G n.length c6] 27) := ⟨_, rfl⟩
 rw [← hZ1]
 have LL : Hid (Below w.heap.size w Z1) := Lib.hid (by rw [hZ1]; exact (by repeat (first | exact Below.refl _ _ | refine bl_drewN ?_ _ | refine bl_drew ?_ | refine bl_alloc ?_ _)))
 have X_pa : Hid (GR.Blk Z1 (w.heap.size) 27 #[.string ka, .slice A a.length c1, .slice B l.length c2]) := Lib.hid (by rw [hZ1]; exact ((GR.Blk.new _ _ _).alloc _).alloc _)
 have X_pb : Hid (GR.Blk Z1 (w.heap.size + 1) 27 #[.string kb, .slice C b.length c3, .slice D m.length c4]) := Lib.hid (by rw [hZ1]; exact (new_at _ _ _ (by simp)).alloc _)
 have X_pc : Hid (GR.Blk Z1 (w.heap.size + 1 + 1) 27 #[.string kc, .slice E c.length c5, .slice G n.length c6]) := Lib.hid (by rw [hZ1]; exact new_at _ _ _ (by simp))
 clear hZ1
 have F1 := Lib.hid (HS.nil Z1)
 have F2 := Lib.hid (HS.addB F1.out (g := w.heap.size) (t := 27) (cs := #[.string ka, .slice A a.length c1, .slice B l.length c2]) (X_pa.out))
 clear F1
 have F3 := Lib.hid (HS.addB F2.out (g := w.heap.size + 1) (t := 27) (cs := #[.string kb, .slice C b.length c3, .slice D m.length c4]) (X_pb.out))
 clear F2
 have F4 := Lib.hid (HS.addB F3.out (g := w.heap.size + 1 + 1) (t := 27) (cs := #[.string kc, .slice E c.length c5, .slice G n.length c6]) (X_pc.out))
 clear F3
 clear X_pa X_pb X_pc
 have F5 := Lib.hid (F4.out.addR (HA.out.below LL.out))
 clear F4
 have F6 := Lib.hid (F5.out.addR (HL.out.below LL.out))
 clear F5
 have F7 := Lib.hid (F6.out.addR (HB.out.below LL.out))
 clear F6
 have F8 := Lib.hid (F7.out.addR (HM.out.below LL.out))
 clear F7
 have F9 := Lib.hid (F8.out.addR (HC.out.below LL.out))
 clear F8
 have F10 := Lib.hid (F9.out.addR (HN.out.below LL.out))
 clear F9
 have BB := LL
 clear LL
 refine (works_any _).mono ?_
 rintro e u2 ⟨rfl, hb⟩
 have F11 := Lib.hid (F10.out.below hb)
 clear F10
 replace BB := Lib.hid (bl_then BB.out hb)
 clear hb
 go_upto_region 3 with fail
 go_cut [7, 8] from 23 (fun s1 s2 wx => ∃ (g : Nat) (A_ B_ : Option Addr) (c_ d_ : Nat), s1 = .pointer (some ⟨g, 0, none⟩) ∧ s2 = .int .i64 x12 ∧ Hid (GR.Blk wx g 27 #[.string k12, .slice A_ (J12).length c_, .slice B_ (M12).length d_]) ∧ Hid (OwnS wx u2.heap.size (.slice A_ (J12).length c_) (.slice B_ (M12).length d_) J12 M12) ∧ Hid (Below u2.heap.size u2 wx))
 case first =>
  as_aux_lemma =>
   have K0 : Hid (u2.cell? ⟨w.heap.size, 0, none⟩ = some (.string ka)) := Lib.hid ((F11.out.blk 8 rfl).cell 0)
   have K1 : Hid (u2.cell? ⟨w.heap.size, 1, none⟩ = some (.slice A a.length c1)) := Lib.hid ((F11.out.blk 8 rfl).cell 1)
   have K2 : Hid (u2.cell? ⟨w.heap.size, 2, none⟩ = some (.slice B l.length c2)) := Lib.hid ((F11.out.blk 8 rfl).cell 2)
   have pa_lt : w.heap.size < u2.heap.size := (F11.out.blk 8 rfl).lt
   have K3 : Hid (u2.cell? ⟨w.heap.size + 1, 0, none⟩ = some (.string kb)) := Lib.hid ((F11.out.blk 7 rfl).cell 0)
   have K4 : Hid (u2.cell? ⟨w.heap.size + 1, 1, none⟩ = some (.slice C b.length c3)) := Lib.hid ((F11.out.blk 7 rfl).cell 1)
   have K5 : Hid (u2.cell? ⟨w.heap.size + 1, 2, none⟩ = some (.slice D m.length c4)) := Lib.hid ((F11.out.blk 7 rfl).cell 2)
   have pb_lt : w.heap.size + 1 < u2.heap.size := (F11.out.blk 7 rfl).lt
   have DD_1 := Lib.hid (F11.out.rd 5 rfl)
   have DL_1 := Lib.hid (F11.out.rd 4 rfl)
   have DD_3 := Lib.hid (F11.out.rd 3 rfl)
   have DL_3 := Lib.hid (F11.out.rd 2 rfl)
   have HR := Lib.hid (Below.refl u2.heap.size u2)
   have HKEEP : Hid (∀ w', Below u2.heap.size u2 w' → (w'.cell? ⟨w.heap.size, 0, none⟩ = some (.string ka) ∧ w'.cell? ⟨w.heap.size, 1, none⟩ = some (.slice A a.length c1) ∧ w'.cell? ⟨w.heap.size, 2, none⟩ = some (.slice B l.length c2) ∧ w'.cell? ⟨w.heap.size + 1, 0, none⟩ = some (.string kb) ∧ w'.cell? ⟨w.heap.size + 1, 1, none⟩ = some (.slice C b.length c3) ∧ w'.cell? ⟨w.heap.size + 1, 2, none⟩ = some (.slice D m.length c4))) := Lib.hid (fun w' hb => ⟨(Below.cell (p := ⟨w.heap.size, 0, none⟩) hb (World.block_lt_of_cell? u2 _ K0.out)).trans K0.out, (Below.cell (p := ⟨w.heap.size, 1, none⟩) hb (World.block_lt_of_cell? u2 _ K1.out)).trans K1.out, (Below.cell (p := ⟨w.heap.size, 2, none⟩) hb (World.block_lt_of_cell? u2 _ K2.out)).trans K2.out, (Below.cell (p := ⟨w.heap.size + 1, 0, none⟩) hb (World.block_lt_of_cell? u2 _ K3.out)).trans K3.out, (Below.cell (p := ⟨w.heap.size + 1, 1, none⟩) hb (World.block_lt_of_cell? u2 _ K4.out)).trans K4.out, (Below.cell (p := ⟨w.heap.size + 1, 2, none⟩) hb (World.block_lt_of_cell? u2 _ K5.out)).trans K5.out⟩)
   refine wp_region_held_drew (S := fun w' => w'.cell? ⟨w.heap.size, 0, none⟩ = some (.string ka) ∧ w'.cell? ⟨w.heap.size, 1, none⟩ = some (.slice A a.length c1) ∧ w'.cell? ⟨w.heap.size, 2, none⟩ = some (.slice B l.length c2) ∧ w'.cell? ⟨w.heap.size + 1, 0, none⟩ = some (.string kb) ∧ w'.cell? ⟨w.heap.size + 1, 1, none⟩ = some (.slice C b.length c3) ∧ w'.cell? ⟨w.heap.size + 1, 2, none⟩ = some (.slice D m.length c4)) (by kernel_rfl) ?_ (fun hHeld => ?_)
   · exact ⟨K0.out, K1.out, K2.out, K3.out, K4.out, K5.out⟩
   refine wpAnyH_take (i := 0) (oi := { dst := some 24, op := Op.load 27 (Operand.tmp 3), type := 27, pos := "outright.go:78", after := #[], guard := none }) (v := ?_) rfl (by kernel_rfl) (by kernel_rfl) (by kernel_rfl) (fun _ _ _ h => h) (Or.inl ⟨by rfl, ?_⟩) (by assumption) ?_
   rotate_left
   · intro w_ hSw; (try dsimp only at hSw); go_simp; first | done | with_reducible rfl
   try simp only [Act.put, sA, s0, sS]
   refine wpAnyH_take (i := 2) (oi := { dst := some 26, op := Op.load 27 (Operand.tmp 4), type := 27, pos := "outright.go:78", after := #[], guard := none }) (v := ?_) rfl (by kernel_rfl) (by kernel_rfl) (by kernel_rfl) (fun _ _ _ h => h) (Or.inl ⟨by rfl, ?_⟩) (by assumption) ?_
   rotate_left
   · intro w_ hSw; (try dsimp only at hSw); go_simp; first | done | with_reducible rfl
   try simp only [Act.put, sA, s0, sS]
   refine wpAnyH_ready (rs := [1, 8]) (by kernel_rfl) (by simp) ?_
   refine AllReadyH.cons (o := { dst := some 25, op := Op.call { callee := Callee.value (Operand.func 10), args := #[Operand.tmp 24], argTypes := #[27] }, type := 27, pos := "outright.go:78", after := #[{ on := 0, ground := Ground.data }], guard := none }) rfl (fun K hK => ?_) (AllReadyH.cons (o := { dst := some 7, op := Op.alloc 27, type := 0, pos := "outright.go:78", after := #[], guard := none }) rfl (fun K hK => ?_) (AllReadyH.nil))
   · skip
     go_simp
     go_at_call 10
     refine (twinR_any ka A B c1 c2 a l _ (GR.Rd.below DD_1.out (by repeat (first | exact HR.out | refine bl_drewN ?_ _ | refine bl_drew ?_ | refine bl_alloc ?_ _))) (GR.Rd.below DL_1.out (by repeat (first | exact HR.out | refine bl_drewN ?_ _ | refine bl_drew ?_ | refine bl_alloc ?_ _))) sa sl).mono ?_
     rintro e q3_1 ⟨A_1, B_1, c_1, d_1, rfl, hra, hrl, hc1, _, hb2⟩
     have bx := bx_of (W := u2) hb2 (by repeat (first | exact HR.out | refine bl_drewN ?_ _ | refine bl_drew ?_ | refine bl_alloc ?_ _))
     have TD_1 := Lib.hid hra
     have TL_1 := Lib.hid hrl
     have TC_1 := hc1
     clear hra hrl
     have hs_1 : u2.heap.size ≤ q3_1.heap.size := (bl_then bx hb2).size
     replace HR := Lib.hid (bl_then bx hb2)
     clear hb2 bx
     refine hK.out _ _ ?_ (fun hHeld => ?_)
     · exact HKEEP.out _ (by repeat (first | exact HR.out | refine bl_drewN ?_ _ | refine bl_drew ?_ | refine bl_alloc ?_ _ | refine Below.setCell ?_ (by simp; try omega) _))
     clear hK K
     try simp only [Act.put, sA, s0, sS]
     refine wpAnyH_ready (rs := [3, 8]) (by kernel_rfl) (by simp) ?_
     refine AllReadyH.cons (o := { dst := some 27, op := Op.call { callee := Callee.value (Operand.func 10), args := #[Operand.tmp 26], argTypes := #[27] }, type := 27, pos := "outright.go:78", after := #[{ on := 2, ground := Ground.data }, { on := 1, ground := Ground.chain }], guard := none }) rfl (fun K hK => ?_) (AllReadyH.cons (o := { dst := some 7, op := Op.alloc 27, type := 0, pos := "outright.go:78", after := #[], guard := none }) rfl (fun K hK => ?_) (AllReadyH.nil))
     · skip
       go_simp
       go_at_call 10
       refine (twinR_any kb C D c3 c4 b m _ (GR.Rd.below DD_3.out (by repeat (first | exact HR.out | refine bl_drewN ?_ _ | refine bl_drew ?_ | refine bl_alloc ?_ _))) (GR.Rd.below DL_3.out (by repeat (first | exact HR.out | refine bl_drewN ?_ _ | refine bl_drew ?_ | refine bl_alloc ?_ _))) sb sm).mono ?_
       rintro e q3_3 ⟨A_3, B_3, c_3, d_3, rfl, hra, hrl, hc1, _, hb2⟩
       have bx := bx_of (W := u2) hb2 (by repeat (first | exact HR.out | refine bl_drewN ?_ _ | refine bl_drew ?_ | refine bl_alloc ?_ _))
       have br := bx_of (W := q3_1) hb2 (by repeat (first | exact Below.refl _ _ | refine bl_drewN ?_ _ | refine bl_drew ?_ | refine bl_alloc ?_ _))
       replace TD_1 := Lib.hid ((TD_1.out.below br).below hb2)
       replace TL_1 := Lib.hid ((TL_1.out.below br).below hb2)
       have TD_3 := Lib.hid hra
       have TL_3 := Lib.hid hrl
       have TC_3 := hc1
       clear hra hrl
       have hs_3 : u2.heap.size ≤ q3_3.heap.size := (bl_then bx hb2).size
       replace HR := Lib.hid (bl_then bx hb2)
       clear hb2 bx br
       refine hK.out _ _ ?_ (fun hHeld => ?_)
       · exact HKEEP.out _ (by repeat (first | exact HR.out | refine bl_drewN ?_ _ | refine bl_drew ?_ | refine bl_alloc ?_ _ | refine Below.setCell ?_ (by simp; try omega) _))
       clear hK K
       try simp only [Act.put, sA, s0, sS]
       refine wpAnyH_ready (rs := [4, 8]) (by kernel_rfl) (by simp) ?_
       refine AllReadyH.cons (o := { dst := some 28, op := Op.call { callee := Callee.value (Operand.func 12), args := #[Operand.tmp 25, Operand.tmp 27], argTypes := #[27, 27] }, type := 34, pos := "outright.go:78", after := #[{ on := 1, ground := Ground.data }, { on := 3, ground := Ground.data }, { on := 3, ground := Ground.chain }], guard := none }) rfl (fun K hK => ?_) (AllReadyH.cons (o := { dst := some 7, op := Op.alloc 27, type := 0, pos := "outright.go:78", after := #[], guard := none }) rfl (fun K hK => ?_) (AllReadyH.nil))
       · skip
         go_simp
         go_at_call 12
         refine (mrgO (J12) (M12) x12 (GR.Rd.below (w := q3_3) TD_1.out (by repeat (first | exact Below.refl _ _ | refine bl_drewN ?_ _ | refine bl_drew ?_ | refine bl_alloc ?_ _))) (GR.Rd.below (w := q3_3) TL_1.out (by repeat (first | exact Below.refl _ _ | refine bl_drewN ?_ _ | refine bl_drew ?_ | refine bl_alloc ?_ _))) (GR.Rd.below (w := q3_3) TD_3.out (by repeat (first | exact Below.refl _ _ | refine bl_drewN ?_ _ | refine bl_drew ?_ | refine bl_alloc ?_ _))) (GR.Rd.below (w := q3_3) TL_3.out (by repeat (first | exact Below.refl _ _ | refine bl_drewN ?_ _ | refine bl_drew ?_ | refine bl_alloc ?_ _))) rfl rfl rfl rfl TC_1 TC_3 HR1.out HR2.out E12k.out E12j.out E12m.out E12x.out).mono ?_
         rintro e q3_4 ⟨A_, B_, c_, d_, rfl, ho, hb2⟩
         have bx := bx_of (W := u2) hb2 (by repeat (first | exact HR.out | refine bl_drewN ?_ _ | refine bl_drew ?_ | refine bl_alloc ?_ _))
         have br := bx_of (W := q3_3) hb2 (by repeat (first | exact Below.refl _ _ | refine bl_drewN ?_ _ | refine bl_drew ?_ | refine bl_alloc ?_ _))
         replace TD_1 := Lib.hid ((TD_1.out.below br).below hb2)
         replace TL_1 := Lib.hid ((TL_1.out.below br).below hb2)
         replace TD_3 := Lib.hid ((TD_3.out.below br).below hb2)
         replace TL_3 := Lib.hid ((TL_3.out.below br).below hb2)
         have HO := Lib.hid (OwnS.base ho (B' := u2.heap.size) bx.size)
         clear ho
         have hs_4 : u2.heap.size ≤ q3_4.heap.size := (bl_then bx hb2).size
         replace HR := Lib.hid (bl_then bx hb2)
         clear hb2 bx br
         refine hK.out _ _ ?_ (fun hHeld => ?_)
         · exact HKEEP.out _ (by repeat (first | exact HR.out | refine bl_drewN ?_ _ | refine bl_drew ?_ | refine bl_alloc ?_ _ | refine Below.setCell ?_ (by simp; try omega) _))
         clear hK K
         try simp only [Act.put, sA, s0, sS]
         refine wpAnyH_take (i := 5) (oi := { dst := some 23, op := Op.move (Operand.tmp 28), type := 34, pos := "outright.go:78", after := #[{ on := 4, ground := Ground.data }], guard := none }) (v := ?_) rfl (by kernel_rfl) (by kernel_rfl) (by kernel_rfl) (fun _ _ _ h => h) (Or.inl ⟨by rfl, ?_⟩) (by assumption) ?_
         rotate_left
         · intro w_ hSw; (try dsimp only at hSw); go_simp; first | done | with_reducible rfl
         try simp only [Act.put, sA, s0, sS]
         refine wpAnyH_take (i := 6) (oi := { dst := some 29, op := Op.extract (Operand.tmp 23) 0, type := 27, pos := "outright.go:78", after := #[{ on := 5, ground := Ground.data }], guard := none }) (v := ?_) rfl (by kernel_rfl) (by kernel_rfl) (by kernel_rfl) (fun _ _ _ h => h) (Or.inl ⟨by rfl, ?_⟩) (by assumption) ?_
         rotate_left
         · intro w_ hSw; (try dsimp only at hSw); go_simp; first | done | with_reducible rfl
         try simp only [Act.put, sA, s0, sS]
         refine wpAnyH_take (i := 7) (oi := { dst := some 30, op := Op.extract (Operand.tmp 23) 1, type := 33, pos := "outright.go:78", after := #[{ on := 5, ground := Ground.data }, { on := 9, ground := Ground.gcOnly Departure.lateStores }], guard := none }) (v := ?_) rfl (by kernel_rfl) (by kernel_rfl) (by kernel_rfl) (fun _ _ _ h => h) (Or.inl ⟨by rfl, ?_⟩) (by assumption) ?_
         rotate_left
         · intro w_ hSw; (try dsimp only at hSw); go_simp; first | done | with_reducible rfl
         try simp only [Act.put, sA, s0, sS]
         refine wpAnyH_ready (rs := [8]) (by kernel_rfl) (by simp) ?_
         refine AllReadyH.cons (o := { dst := some 7, op := Op.alloc 27, type := 0, pos := "outright.go:78", after := #[], guard := none }) rfl (fun K hK => ?_) (AllReadyH.nil)
         go_simp
         skip
         refine hK.out _ _ ?_ (fun hHeld => ?_)
         · exact HKEEP.out _ (by repeat (first | exact HR.out | refine bl_drewN ?_ _ | refine bl_drew ?_ | refine bl_alloc ?_ _ | refine Below.setCell ?_ (by simp; try omega) _))
         clear hK K
         try simp only [Act.put, sA, s0, sS]
         refine wpAnyH_ready (rs := [9]) (by kernel_rfl) (by simp) ?_
         refine AllReadyH.cons (o := { dst := none, op := Op.store 27 (Operand.tmp 7) (Operand.tmp 29), type := 0, pos := "outright.go:78", after := #[{ on := 8, ground := Ground.data }, { on := 6, ground := Ground.data }, { on := 4, ground := Ground.chain }, { on := 0, ground := Ground.phase }, { on := 1, ground := Ground.phase }, { on := 2, ground := Ground.phase }, { on := 3, ground := Ground.phase }, { on := 4, ground := Ground.phase }, { on := 5, ground := Ground.phase }, { on := 6, ground := Ground.phase }, { on := 7, ground := Ground.textOnly Departure.lateStores }, { on := 8, ground := Ground.phase }], guard := none }) rfl (fun K hK => ?_) (AllReadyH.nil)
         go_simp
         skip
         refine hK.out _ _ ?_ (fun hHeld => ?_)
         · exact HKEEP.out _ (by repeat (first | exact HR.out | refine bl_drewN ?_ _ | refine bl_drew ?_ | refine bl_alloc ?_ _ | refine Below.setCell ?_ (by simp; try omega) _))
         clear hK K
         try simp only [Act.put, sA, s0, sS]
         refine wpAnyH_take (i := 10) (oi := { dst := some 8, op := Op.assign (Operand.tmp 30), type := 33, pos := "outright.go:78", after := #[{ on := 7, ground := Ground.data }, { on := 9, ground := Ground.chain }, { on := 0, ground := Ground.phase }, { on := 1, ground := Ground.phase }, { on := 2, ground := Ground.phase }, { on := 3, ground := Ground.phase }, { on := 4, ground := Ground.phase }, { on := 5, ground := Ground.phase }, { on := 6, ground := Ground.phase }, { on := 7, ground := Ground.phase }, { on := 8, ground := Ground.phase }, { on := 9, ground := Ground.phase }], guard := none }) (v := ?_) rfl (by kernel_rfl) (by kernel_rfl) (by kernel_rfl) (fun _ _ _ h => h) (Or.inl ⟨by rfl, ?_⟩) (by assumption) ?_
         rotate_left
         · intro w_ hSw; (try dsimp only at hSw); go_simp; first | done | with_reducible rfl
         try simp only [Act.put, sA, s0, sS]
         refine wpAnyH_done (by kernel_rfl) ?_ _
         go_wp2_with fail
         go_meet
         exact ⟨_, A_, B_, c_, d_, rfl, rfl, Lib.hid (GR.Blk.new _ _ _), Lib.hid (OwnS.below HO.out (by repeat (first | exact Below.refl _ _ | refine bl_drewN ?_ _ | refine bl_drew ?_ | refine bl_alloc ?_ _))), Lib.hid (by repeat (first | exact HR.out | refine bl_drewN ?_ _ | refine bl_drew ?_ | refine bl_alloc ?_ _))⟩
       · skip
         go_simp
         skip
         refine hK.out _ _ ?_ (fun hHeld => ?_)
         · exact HKEEP.out _ (by repeat (first | exact HR.out | refine bl_drewN ?_ _ | refine bl_drew ?_ | refine bl_alloc ?_ _ | refine Below.setCell ?_ (by simp; try omega) _))
         clear hK K
         try simp only [Act.put, sA, s0, sS]
         refine wpAnyH_ready (rs := [4]) (by kernel_rfl) (by simp) ?_
         refine AllReadyH.cons (o := { dst := some 28, op := Op.call { callee := Callee.value (Operand.func 12), args := #[Operand.tmp 25, Operand.tmp 27], argTypes := #[27, 27] }, type := 34, pos := "outright.go:78", after := #[{ on := 1, ground := Ground.data }, { on := 3, ground := Ground.data }, { on := 3, ground := Ground.chain }], guard := none }) rfl (fun K hK => ?_) (AllReadyH.nil)
         go_simp
         go_at_call 12
         refine (mrgO (J12) (M12) x12 (GR.Rd.below (w := q3_3) TD_1.out (by repeat (first | exact Below.refl _ _ | refine bl_drewN ?_ _ | refine bl_drew ?_ | refine bl_alloc ?_ _))) (GR.Rd.below (w := q3_3) TL_1.out (by repeat (first | exact Below.refl _ _ | refine bl_drewN ?_ _ | refine bl_drew ?_ | refine bl_alloc ?_ _))) (GR.Rd.below (w := q3_3) TD_3.out (by repeat (first | exact Below.refl _ _ | refine bl_drewN ?_ _ | refine bl_drew ?_ | refine bl_alloc ?_ _))) (GR.Rd.below (w := q3_3) TL_3.out (by repeat (first | exact Below.refl _ _ | refine bl_drewN ?_ _ | refine bl_drew ?_ | refine bl_alloc ?_ _))) rfl rfl rfl rfl TC_1 TC_3 HR1.out HR2.out E12k.out E12j.out E12m.out E12x.out).mono ?_
         rintro e q3_4 ⟨A_, B_, c_, d_, rfl, ho, hb2⟩
         have bx := bx_of (W := u2) hb2 (by repeat (first | exact HR.out | refine bl_drewN ?_ _ | refine bl_drew ?_ | refine bl_alloc ?_ _))
         have br := bx_of (W := q3_3) hb2 (by repeat (first | exact Below.refl _ _ | refine bl_drewN ?_ _ | refine bl_drew ?_ | refine bl_alloc ?_ _))
         replace TD_1 := Lib.hid ((TD_1.out.below br).below hb2)
         replace TL_1 := Lib.hid ((TL_1.out.below br).below hb2)
         replace TD_3 := Lib.hid ((TD_3.out.below br).below hb2)
         replace TL_3 := Lib.hid ((TL_3.out.below br).below hb2)
         have XG : Hid (GR.Blk q3_4 q3_3.heap.size 27 #[.string ⟨#[]⟩, .slice none 0 0, .slice none 0 0]) := Lib.hid (by
          refine GR.Blk.below ?_ hb2 ?_
          · exact new_at _ _ _ (by simp)
          · simp)
         have HO := Lib.hid (OwnS.base ho (B' := u2.heap.size) bx.size)
         clear ho
         have e0 := XG.out.cell 0
         have e1 := XG.out.cell 1
         have e2 := XG.out.cell 2
         have f0 := XG.out.frozen 0
         have f1 := XG.out.frozen 1
         have f2 := XG.out.frozen 2
         have hs_4 : u2.heap.size ≤ q3_4.heap.size := (bl_then bx hb2).size
         replace HR := Lib.hid (bl_then bx hb2)
         clear hb2 bx br
         refine hK.out _ _ ?_ (fun hHeld => ?_)
         · exact HKEEP.out _ (by repeat (first | exact HR.out | refine bl_drewN ?_ _ | refine bl_drew ?_ | refine bl_alloc ?_ _ | refine Below.setCell ?_ (by simp; try omega) _))
         clear hK K
         try simp only [Act.put, sA, s0, sS]
         refine wpAnyH_take (i := 5) (oi := { dst := some 23, op := Op.move (Operand.tmp 28), type := 34, pos := "outright.go:78", after := #[{ on := 4, ground := Ground.data }], guard := none }) (v := ?_) rfl (by kernel_rfl) (by kernel_rfl) (by kernel_rfl) (fun _ _ _ h => h) (Or.inl ⟨by rfl, ?_⟩) (by assumption) ?_
         rotate_left
         · intro w_ hSw; (try dsimp only at hSw); go_simp; first | done | with_reducible rfl
         try simp only [Act.put, sA, s0, sS]
         refine wpAnyH_take (i := 6) (oi := { dst := some 29, op := Op.extract (Operand.tmp 23) 0, type := 27, pos := "outright.go:78", after := #[{ on := 5, ground := Ground.data }], guard := none }) (v := ?_) rfl (by kernel_rfl) (by kernel_rfl) (by kernel_rfl) (fun _ _ _ h => h) (Or.inl ⟨by rfl, ?_⟩) (by assumption) ?_
         rotate_left
         · intro w_ hSw; (try dsimp only at hSw); go_simp; first | done | with_reducible rfl
         try simp only [Act.put, sA, s0, sS]
         refine wpAnyH_take (i := 7) (oi := { dst := some 30, op := Op.extract (Operand.tmp 23) 1, type := 33, pos := "outright.go:78", after := #[{ on := 5, ground := Ground.data }, { on := 9, ground := Ground.gcOnly Departure.lateStores }], guard := none }) (v := ?_) rfl (by kernel_rfl) (by kernel_rfl) (by kernel_rfl) (fun _ _ _ h => h) (Or.inl ⟨by rfl, ?_⟩) (by assumption) ?_
         rotate_left
         · intro w_ hSw; (try dsimp only at hSw); go_simp; first | done | with_reducible rfl
         try simp only [Act.put, sA, s0, sS]
         refine wpAnyH_ready (rs := [9]) (by kernel_rfl) (by simp) ?_
         refine AllReadyH.cons (o := { dst := none, op := Op.store 27 (Operand.tmp 7) (Operand.tmp 29), type := 0, pos := "outright.go:78", after := #[{ on := 8, ground := Ground.data }, { on := 6, ground := Ground.data }, { on := 4, ground := Ground.chain }, { on := 0, ground := Ground.phase }, { on := 1, ground := Ground.phase }, { on := 2, ground := Ground.phase }, { on := 3, ground := Ground.phase }, { on := 4, ground := Ground.phase }, { on := 5, ground := Ground.phase }, { on := 6, ground := Ground.phase }, { on := 7, ground := Ground.textOnly Departure.lateStores }, { on := 8, ground := Ground.phase }], guard := none }) rfl (fun K hK => ?_) (AllReadyH.nil)
         go_simp
         skip
         refine hK.out _ _ ?_ (fun hHeld => ?_)
         · exact HKEEP.out _ (by repeat (first | exact HR.out | refine bl_drewN ?_ _ | refine bl_drew ?_ | refine bl_alloc ?_ _ | refine Below.setCell ?_ (by simp; try omega) _))
         clear hK K
         try simp only [Act.put, sA, s0, sS]
         refine wpAnyH_take (i := 10) (oi := { dst := some 8, op := Op.assign (Operand.tmp 30), type := 33, pos := "outright.go:78", after := #[{ on := 7, ground := Ground.data }, { on := 9, ground := Ground.chain }, { on := 0, ground := Ground.phase }, { on := 1, ground := Ground.phase }, { on := 2, ground := Ground.phase }, { on := 3, ground := Ground.phase }, { on := 4, ground := Ground.phase }, { on := 5, ground := Ground.phase }, { on := 6, ground := Ground.phase }, { on := 7, ground := Ground.phase }, { on := 8, ground := Ground.phase }, { on := 9, ground := Ground.phase }], guard := none }) (v := ?_) rfl (by kernel_rfl) (by kernel_rfl) (by kernel_rfl) (fun _ _ _ h => h) (Or.inl ⟨by rfl, ?_⟩) (by assumption) ?_
         rotate_left
         · intro w_ hSw; (try dsimp only at hSw); go_simp; first | done | with_reducible rfl
         try simp only [Act.put, sA, s0, sS]
         refine wpAnyH_done (by kernel_rfl) ?_ _
         clear e0 e1 e2 f0 f1 f2
         go_wp2_with fail
         go_meet
         exact ⟨_, A_, B_, c_, d_, rfl, rfl, Lib.hid (ob_put HO.out XG.out).2, Lib.hid (ob_put HO.out XG.out).1, Lib.hid (by repeat (first | exact HR.out | refine Below.setCell ?_ (by simp; try omega) _))⟩
     · skip
       go_simp
       skip
       refine hK.out _ _ ?_ (fun hHeld => ?_)
       · exact HKEEP.out _ (by repeat (first | exact HR.out | refine bl_drewN ?_ _ | refine bl_drew ?_ | refine bl_alloc ?_ _ | refine Below.setCell ?_ (by simp; try omega) _))
       clear hK K
       try simp only [Act.put, sA, s0, sS]
       refine wpAnyH_ready (rs := [3]) (by kernel_rfl) (by simp) ?_
       refine AllReadyH.cons (o := { dst := some 27, op := Op.call { callee := Callee.value (Operand.func 10), args := #[Operand.tmp 26], argTypes := #[27] }, type := 27, pos := "outright.go:78", after := #[{ on := 2, ground := Ground.data }, { on := 1, ground := Ground.chain }], guard := none }) rfl (fun K hK => ?_) (AllReadyH.nil)
       go_simp
       go_at_call 10
       refine (twinR_any kb C D c3 c4 b m _ (GR.Rd.below DD_3.out (by repeat (first | exact HR.out | refine bl_drewN ?_ _ | refine bl_drew ?_ | refine bl_alloc ?_ _))) (GR.Rd.below DL_3.out (by repeat (first | exact HR.out | refine bl_drewN ?_ _ | refine bl_drew ?_ | refine bl_alloc ?_ _))) sb sm).mono ?_
       rintro e q3_3 ⟨A_3, B_3, c_3, d_3, rfl, hra, hrl, hc1, _, hb2⟩
       have bx := bx_of (W := u2) hb2 (by repeat (first | exact HR.out | refine bl_drewN ?_ _ | refine bl_drew ?_ | refine bl_alloc ?_ _))
       have br := bx_of (W := q3_1) hb2 (by repeat (first | exact Below.refl _ _ | refine bl_drewN ?_ _ | refine bl_drew ?_ | refine bl_alloc ?_ _))
       replace TD_1 := Lib.hid ((TD_1.out.below br).below hb2)
       replace TL_1 := Lib.hid ((TL_1.out.below br).below hb2)
       have TD_3 := Lib.hid hra
       have TL_3 := Lib.hid hrl
       have TC_3 := hc1
       clear hra hrl
       have XG : Hid (GR.Blk q3_3 q3_1.heap.size 27 #[.string ⟨#[]⟩, .slice none 0 0, .slice none 0 0]) := Lib.hid (by
        refine GR.Blk.below ?_ hb2 ?_
        · exact new_at _ _ _ (by simp)
        · simp)
       have hs_3 : u2.heap.size ≤ q3_3.heap.size := (bl_then bx hb2).size
       replace HR := Lib.hid (bl_then bx hb2)
       clear hb2 bx br
       refine hK.out _ _ ?_ (fun hHeld => ?_)
       · exact HKEEP.out _ (by repeat (first | exact HR.out | refine bl_drewN ?_ _ | refine bl_drew ?_ | refine bl_alloc ?_ _ | refine Below.setCell ?_ (by simp; try omega) _))
       clear hK K
       try simp only [Act.put, sA, s0, sS]
       refine wpAnyH_ready (rs := [4]) (by kernel_rfl) (by simp) ?_
       refine AllReadyH.cons (o := { dst := some 28, op := Op.call { callee := Callee.value (Operand.func 12), args := #[Operand.tmp 25, Operand.tmp 27], argTypes := #[27, 27] }, type := 34, pos := "outright.go:78", after := #[{ on := 1, ground := Ground.data }, { on := 3, ground := Ground.data }, { on := 3, ground := Ground.chain }], guard := none }) rfl (fun K hK => ?_) (AllReadyH.nil)
       go_simp
       go_at_call 12
       refine (mrgO (J12) (M12) x12 (GR.Rd.below (w := q3_3) TD_1.out (by repeat (first | exact Below.refl _ _ | refine bl_drewN ?_ _ | refine bl_drew ?_ | refine bl_alloc ?_ _))) (GR.Rd.below (w := q3_3) TL_1.out (by repeat (first | exact Below.refl _ _ | refine bl_drewN ?_ _ | refine bl_drew ?_ | refine bl_alloc ?_ _))) (GR.Rd.below (w := q3_3) TD_3.out (by repeat (first | exact Below.refl _ _ | refine bl_drewN ?_ _ | refine bl_drew ?_ | refine bl_alloc ?_ _))) (GR.Rd.below (w := q3_3) TL_3.out (by repeat (first | exact Below.refl _ _ | refine bl_drewN ?_ _ | refine bl_drew ?_ | refine bl_alloc ?_ _))) rfl rfl rfl rfl TC_1 TC_3 HR1.out HR2.out E12k.out E12j.out E12m.out E12x.out).mono ?_
       rintro e q3_4 ⟨A_, B_, c_, d_, rfl, ho, hb2⟩
       have bx := bx_of (W := u2) hb2 (by repeat (first | exact HR.out | refine bl_drewN ?_ _ | refine bl_drew ?_ | refine bl_alloc ?_ _))
       have br := bx_of (W := q3_3) hb2 (by repeat (first | exact Below.refl _ _ | refine bl_drewN ?_ _ | refine bl_drew ?_ | refine bl_alloc ?_ _))
       replace TD_1 := Lib.hid ((TD_1.out.below br).below hb2)
       replace TL_1 := Lib.hid ((TL_1.out.below br).below hb2)
       replace TD_3 := Lib.hid ((TD_3.out.below br).below hb2)
       replace TL_3 := Lib.hid ((TL_3.out.below br).below hb2)
       replace XG := Lib.hid (blk_up XG.out br hb2)
       have HO := Lib.hid (OwnS.base ho (B' := u2.heap.size) bx.size)
       clear ho
       have e0 := XG.out.cell 0
       have e1 := XG.out.cell 1
       have e2 := XG.out.cell 2
       have f0 := XG.out.frozen 0
       have f1 := XG.out.frozen 1
       have f2 := XG.out.frozen 2
       have hs_4 : u2.heap.size ≤ q3_4.heap.size := (bl_then bx hb2).size
       replace HR := Lib.hid (bl_then bx hb2)
       clear hb2 bx br
       refine hK.out _ _ ?_ (fun hHeld => ?_)
       · exact HKEEP.out _ (by repeat (first | exact HR.out | refine bl_drewN ?_ _ | refine bl_drew ?_ | refine bl_alloc ?_ _ | refine Below.setCell ?_ (by simp; try omega) _))
       clear hK K
       try simp only [Act.put, sA, s0, sS]
       refine wpAnyH_take (i := 5) (oi := { dst := some 23, op := Op.move (Operand.tmp 28), type := 34, pos := "outright.go:78", after := #[{ on := 4, ground := Ground.data }], guard := none }) (v := ?_) rfl (by kernel_rfl) (by kernel_rfl) (by kernel_rfl) (fun _ _ _ h => h) (Or.inl ⟨by rfl, ?_⟩) (by assumption) ?_
       rotate_left
       · intro w_ hSw; (try dsimp only at hSw); go_simp; first | done | with_reducible rfl
       try simp only [Act.put, sA, s0, sS]
       refine wpAnyH_take (i := 6) (oi := { dst := some 29, op := Op.extract (Operand.tmp 23) 0, type := 27, pos := "outright.go:78", after := #[{ on := 5, ground := Ground.data }], guard := none }) (v := ?_) rfl (by kernel_rfl) (by kernel_rfl) (by kernel_rfl) (fun _ _ _ h => h) (Or.inl ⟨by rfl, ?_⟩) (by assumption) ?_
       rotate_left
       · intro w_ hSw; (try dsimp only at hSw); go_simp; first | done | with_reducible rfl
       try simp only [Act.put, sA, s0, sS]
       refine wpAnyH_take (i := 7) (oi := { dst := some 30, op := Op.extract (Operand.tmp 23) 1, type := 33, pos := "outright.go:78", after := #[{ on := 5, ground := Ground.data }, { on := 9, ground := Ground.gcOnly Departure.lateStores }], guard := none }) (v := ?_) rfl (by kernel_rfl) (by kernel_rfl) (by kernel_rfl) (fun _ _ _ h => h) (Or.inl ⟨by rfl, ?_⟩) (by assumption) ?_
       rotate_left
       · intro w_ hSw; (try dsimp only at hSw); go_simp; first | done | with_reducible rfl
       try simp only [Act.put, sA, s0, sS]
       refine wpAnyH_ready (rs := [9]) (by kernel_rfl) (by simp) ?_
       refine AllReadyH.cons (o := { dst := none, op := Op.store 27 (Operand.tmp 7) (Operand.tmp 29), type := 0, pos := "outright.go:78", after := #[{ on := 8, ground := Ground.data }, { on := 6, ground := Ground.data }, { on := 4, ground := Ground.chain }, { on := 0, ground := Ground.phase }, { on := 1, ground := Ground.phase }, { on := 2, ground := Ground.phase }, { on := 3, ground := Ground.phase }, { on := 4, ground := Ground.phase }, { on := 5, ground := Ground.phase }, { on := 6, ground := Ground.phase }, { on := 7, ground := Ground.textOnly Departure.lateStores }, { on := 8, ground := Ground.phase }], guard := none }) rfl (fun K hK => ?_) (AllReadyH.nil)
       go_simp
       skip
       refine hK.out _ _ ?_ (fun hHeld => ?_)
       · exact HKEEP.out _ (by repeat (first | exact HR.out | refine bl_drewN ?_ _ | refine bl_drew ?_ | refine bl_alloc ?_ _ | refine Below.setCell ?_ (by simp; try omega) _))
       clear hK K
       try simp only [Act.put, sA, s0, sS]
       refine wpAnyH_take (i := 10) (oi := { dst := some 8, op := Op.assign (Operand.tmp 30), type := 33, pos := "outright.go:78", after := #[{ on := 7, ground := Ground.data }, { on := 9, ground := Ground.chain }, { on := 0, ground := Ground.phase }, { on := 1, ground := Ground.phase }, { on := 2, ground := Ground.phase }, { on := 3, ground := Ground.phase }, { on := 4, ground := Ground.phase }, { on := 5, ground := Ground.phase }, { on := 6, ground := Ground.phase }, { on := 7, ground := Ground.phase }, { on := 8, ground := Ground.phase }, { on := 9, ground := Ground.phase }], guard := none }) (v := ?_) rfl (by kernel_rfl) (by kernel_rfl) (by kernel_rfl) (fun _ _ _ h => h) (Or.inl ⟨by rfl, ?_⟩) (by assumption) ?_
       rotate_left
       · intro w_ hSw; (try dsimp only at hSw); go_simp; first | done | with_reducible rfl
       try simp only [Act.put, sA, s0, sS]
       refine wpAnyH_done (by kernel_rfl) ?_ _
       clear e0 e1 e2 f0 f1 f2
       go_wp2_with fail
       go_meet
       exact ⟨_, A_, B_, c_, d_, rfl, rfl, Lib.hid (ob_put HO.out XG.out).2, Lib.hid (ob_put HO.out XG.out).1, Lib.hid (by repeat (first | exact HR.out | refine Below.setCell ?_ (by simp; try omega) _))⟩
   · skip
     go_simp
     skip
     refine hK.out _ _ ?_ (fun hHeld => ?_)
     · exact HKEEP.out _ (by repeat (first | exact HR.out | refine bl_drewN ?_ _ | refine bl_drew ?_ | refine bl_alloc ?_ _ | refine Below.setCell ?_ (by simp; try omega) _))
     clear hK K
     try simp only [Act.put, sA, s0, sS]
     refine wpAnyH_ready (rs := [1]) (by kernel_rfl) (by simp) ?_
     refine AllReadyH.cons (o := { dst := some 25, op := Op.call { callee := Callee.value (Operand.func 10), args := #[Operand.tmp 24], argTypes := #[27] }, type := 27, pos := "outright.go:78", after := #[{ on := 0, ground := Ground.data }], guard := none }) rfl (fun K hK => ?_) (AllReadyH.nil)
     go_simp
     go_at_call 10
     refine (twinR_any ka A B c1 c2 a l _ (GR.Rd.below DD_1.out (by repeat (first | exact HR.out | refine bl_drewN ?_ _ | refine bl_drew ?_ | refine bl_alloc ?_ _))) (GR.Rd.below DL_1.out (by repeat (first | exact HR.out | refine bl_drewN ?_ _ | refine bl_drew ?_ | refine bl_alloc ?_ _))) sa sl).mono ?_
     rintro e q3_1 ⟨A_1, B_1, c_1, d_1, rfl, hra, hrl, hc1, _, hb2⟩
     have bx := bx_of (W := u2) hb2 (by repeat (first | exact HR.out | refine bl_drewN ?_ _ | refine bl_drew ?_ | refine bl_alloc ?_ _))
     have TD_1 := Lib.hid hra
     have TL_1 := Lib.hid hrl
     have TC_1 := hc1
     clear hra hrl
     have XG : Hid (GR.Blk q3_1 u2.heap.size 27 #[.string ⟨#[]⟩, .slice none 0 0, .slice none 0 0]) := Lib.hid (by
      refine GR.Blk.below ?_ hb2 ?_
      · exact new_at _ _ _ (by simp)
      · simp)
     have hs_1 : u2.heap.size ≤ q3_1.heap.size := (bl_then bx hb2).size
     replace HR := Lib.hid (bl_then bx hb2)
     clear hb2 bx
     refine hK.out _ _ ?_ (fun hHeld => ?_)
     · exact HKEEP.out _ (by repeat (first | exact HR.out | refine bl_drewN ?_ _ | refine bl_drew ?_ | refine bl_alloc ?_ _ | refine Below.setCell ?_ (by simp; try omega) _))
     clear hK K
     try simp only [Act.put, sA, s0, sS]
     refine wpAnyH_ready (rs := [3]) (by kernel_rfl) (by simp) ?_
     refine AllReadyH.cons (o := { dst := some 27, op := Op.call { callee := Callee.value (Operand.func 10), args := #[Operand.tmp 26], argTypes := #[27] }, type := 27, pos := "outright.go:78", after := #[{ on := 2, ground := Ground.data }, { on := 1, ground := Ground.chain }], guard := none }) rfl (fun K hK => ?_) (AllReadyH.nil)
     go_simp
     go_at_call 10
     refine (twinR_any kb C D c3 c4 b m _ (GR.Rd.below DD_3.out (by repeat (first | exact HR.out | refine bl_drewN ?_ _ | refine bl_drew ?_ | refine bl_alloc ?_ _))) (GR.Rd.below DL_3.out (by repeat (first | exact HR.out | refine bl_drewN ?_ _ | refine bl_drew ?_ | refine bl_alloc ?_ _))) sb sm).mono ?_
     rintro e q3_3 ⟨A_3, B_3, c_3, d_3, rfl, hra, hrl, hc1, _, hb2⟩
     have bx := bx_of (W := u2) hb2 (by repeat (first | exact HR.out | refine bl_drewN ?_ _ | refine bl_drew ?_ | refine bl_alloc ?_ _))
     have br := bx_of (W := q3_1) hb2 (by repeat (first | exact Below.refl _ _ | refine bl_drewN ?_ _ | refine bl_drew ?_ | refine bl_alloc ?_ _))
     replace TD_1 := Lib.hid ((TD_1.out.below br).below hb2)
     replace TL_1 := Lib.hid ((TL_1.out.below br).below hb2)
     have TD_3 := Lib.hid hra
     have TL_3 := Lib.hid hrl
     have TC_3 := hc1
     clear hra hrl
     replace XG := Lib.hid (blk_up XG.out br hb2)
     have hs_3 : u2.heap.size ≤ q3_3.heap.size := (bl_then bx hb2).size
     replace HR := Lib.hid (bl_then bx hb2)
     clear hb2 bx br
     refine hK.out _ _ ?_ (fun hHeld => ?_)
     · exact HKEEP.out _ (by repeat (first | exact HR.out | refine bl_drewN ?_ _ | refine bl_drew ?_ | refine bl_alloc ?_ _ | refine Below.setCell ?_ (by simp; try omega) _))
     clear hK K
     try simp only [Act.put, sA, s0, sS]
     refine wpAnyH_ready (rs := [4]) (by kernel_rfl) (by simp) ?_
     refine AllReadyH.cons (o := { dst := some 28, op := Op.call { callee := Callee.value (Operand.func 12), args := #[Operand.tmp 25, Operand.tmp 27], argTypes := #[27, 27] }, type := 34, pos := "outright.go:78", after := #[{ on := 1, ground := Ground.data }, { on := 3, ground := Ground.data }, { on := 3, ground := Ground.chain }], guard := none }) rfl (fun K hK => ?_) (AllReadyH.nil)
     go_simp
     go_at_call 12
     refine (mrgO (J12) (M12) x12 (GR.Rd.below (w := q3_3) TD_1.out (by repeat (first | exact Below.refl _ _ | refine bl_drewN ?_ _ | refine bl_drew ?_ | refine bl_alloc ?_ _))) (GR.Rd.below (w := q3_3) TL_1.out (by repeat (first | exact Below.refl _ _ | refine bl_drewN ?_ _ | refine bl_drew ?_ | refine bl_alloc ?_ _))) (GR.Rd.below (w := q3_3) TD_3.out (by repeat (first | exact Below.refl _ _ | refine bl_drewN ?_ _ | refine bl_drew ?_ | refine bl_alloc ?_ _))) (GR.Rd.below (w := q3_3) TL_3.out (by repeat (first | exact Below.refl _ _ | refine bl_drewN ?_ _ | refine bl_drew ?_ | refine bl_alloc ?_ _))) rfl rfl rfl rfl TC_1 TC_3 HR1.out HR2.out E12k.out E12j.out E12m.out E12x.out).mono ?_
     rintro e q3_4 ⟨A_, B_, c_, d_, rfl, ho, hb2⟩
     have bx := bx_of (W := u2) hb2 (by repeat (first | exact HR.out | refine bl_drewN ?_ _ | refine bl_drew ?_ | refine bl_alloc ?_ _))
     have br := bx_of (W := q3_3) hb2 (by repeat (first | exact Below.refl _ _ | refine bl_drewN ?_ _ | refine bl_drew ?_ | refine bl_alloc ?_ _))
     replace TD_1 := Lib.hid ((TD_1.out.below br).below hb2)
     replace TL_1 := Lib.hid ((TL_1.out.below br).below hb2)
     replace TD_3 := Lib.hid ((TD_3.out.below br).below hb2)
     replace TL_3 := Lib.hid ((TL_3.out.below br).below hb2)
     replace XG := Lib.hid (blk_up XG.out br hb2)
     have HO := Lib.hid (OwnS.base ho (B' := u2.heap.size) bx.size)
     clear ho
     have e0 := XG.out.cell 0
     have e1 := XG.out.cell 1
     have e2 := XG.out.cell 2
     have f0 := XG.out.frozen 0
     have f1 := XG.out.frozen 1
     have f2 := XG.out.frozen 2
     have hs_4 : u2.heap.size ≤ q3_4.heap.size := (bl_then bx hb2).size
     replace HR := Lib.hid (bl_then bx hb2)
     clear hb2 bx br
     refine hK.out _ _ ?_ (fun hHeld => ?_)
     · exact HKEEP.out _ (by repeat (first | exact HR.out | refine bl_drewN ?_ _ | refine bl_drew ?_ | refine bl_alloc ?_ _ | refine Below.setCell ?_ (by simp; try omega) _))
     clear hK K
     try simp only [Act.put, sA, s0, sS]
     refine wpAnyH_take (i := 5) (oi := { dst := some 23, op := Op.move (Operand.tmp 28), type := 34, pos := "outright.go:78", after := #[{ on := 4, ground := Ground.data }], guard := none }) (v := ?_) rfl (by kernel_rfl) (by kernel_rfl) (by kernel_rfl) (fun _ _ _ h => h) (Or.inl ⟨by rfl, ?_⟩) (by assumption) ?_
     rotate_left
     · intro w_ hSw; (try dsimp only at hSw); go_simp; first | done | with_reducible rfl
     try simp only [Act.put, sA, s0, sS]
     refine wpAnyH_take (i := 6) (oi := { dst := some 29, op := Op.extract (Operand.tmp 23) 0, type := 27, pos := "outright.go:78", after := #[{ on := 5, ground := Ground.data }], guard := none }) (v := ?_) rfl (by kernel_rfl) (by kernel_rfl) (by kernel_rfl) (fun _ _ _ h => h) (Or.inl ⟨by rfl, ?_⟩) (by assumption) ?_
     rotate_left
     · intro w_ hSw; (try dsimp only at hSw); go_simp; first | done | with_reducible rfl
     try simp only [Act.put, sA, s0, sS]
     refine wpAnyH_take (i := 7) (oi := { dst := some 30, op := Op.extract (Operand.tmp 23) 1, type := 33, pos := "outright.go:78", after := #[{ on := 5, ground := Ground.data }, { on := 9, ground := Ground.gcOnly Departure.lateStores }], guard := none }) (v := ?_) rfl (by kernel_rfl) (by kernel_rfl) (by kernel_rfl) (fun _ _ _ h => h) (Or.inl ⟨by rfl, ?_⟩) (by assumption) ?_
     rotate_left
     · intro w_ hSw; (try dsimp only at hSw); go_simp; first | done | with_reducible rfl
     try simp only [Act.put, sA, s0, sS]
     refine wpAnyH_ready (rs := [9]) (by kernel_rfl) (by simp) ?_
     refine AllReadyH.cons (o := { dst := none, op := Op.store 27 (Operand.tmp 7) (Operand.tmp 29), type := 0, pos := "outright.go:78", after := #[{ on := 8, ground := Ground.data }, { on := 6, ground := Ground.data }, { on := 4, ground := Ground.chain }, { on := 0, ground := Ground.phase }, { on := 1, ground := Ground.phase }, { on := 2, ground := Ground.phase }, { on := 3, ground := Ground.phase }, { on := 4, ground := Ground.phase }, { on := 5, ground := Ground.phase }, { on := 6, ground := Ground.phase }, { on := 7, ground := Ground.textOnly Departure.lateStores }, { on := 8, ground := Ground.phase }], guard := none }) rfl (fun K hK => ?_) (AllReadyH.nil)
     go_simp
     skip
     refine hK.out _ _ ?_ (fun hHeld => ?_)
     · exact HKEEP.out _ (by repeat (first | exact HR.out | refine bl_drewN ?_ _ | refine bl_drew ?_ | refine bl_alloc ?_ _ | refine Below.setCell ?_ (by simp; try omega) _))
     clear hK K
     try simp only [Act.put, sA, s0, sS]
     refine wpAnyH_take (i := 10) (oi := { dst := some 8, op := Op.assign (Operand.tmp 30), type := 33, pos := "outright.go:78", after := #[{ on := 7, ground := Ground.data }, { on := 9, ground := Ground.chain }, { on := 0, ground := Ground.phase }, { on := 1, ground := Ground.phase }, { on := 2, ground := Ground.phase }, { on := 3, ground := Ground.phase }, { on := 4, ground := Ground.phase }, { on := 5, ground := Ground.phase }, { on := 6, ground := Ground.phase }, { on := 7, ground := Ground.phase }, { on := 8, ground := Ground.phase }, { on := 9, ground := Ground.phase }], guard := none }) (v := ?_) rfl (by kernel_rfl) (by kernel_rfl) (by kernel_rfl) (fun _ _ _ h => h) (Or.inl ⟨by rfl, ?_⟩) (by assumption) ?_
     rotate_left
     · intro w_ hSw; (try dsimp only at hSw); go_simp; first | done | with_reducible rfl
     try simp only [Act.put, sA, s0, sS]
     refine wpAnyH_done (by kernel_rfl) ?_ _
     clear e0 e1 e2 f0 f1 f2
     go_wp2_with fail
     go_meet
     exact ⟨_, A_, B_, c_, d_, rfl, rfl, Lib.hid (ob_put HO.out XG.out).2, Lib.hid (ob_put HO.out XG.out).1, Lib.hid (by repeat (first | exact HR.out | refine Below.setCell ?_ (by simp; try omega) _))⟩
 case rest =>
  obtain ⟨g12, A12, B12, c12, d12, rfl, rfl, BZ, BO, BC⟩ := hcut
  obtain ⟨m3, hw_⟩ : ∃ x : World, x = wc := ⟨_, rfl⟩
  subst hw_
  have F12 := Lib.hid (F11.out.below BC.out)
  clear F11
  have F13 := Lib.hid (HS.addB F12.out (g := g12) (t := 27) (cs := #[.string k12, .slice A12 (J12).length c12, .slice B12 (M12).length d12]) (BZ.out))
  clear F12
  have F14 := Lib.hid (F13.out.addO (BO.out))
  clear F13
  replace BB := Lib.hid (bl_then BB.out BC.out)
  clear BZ BO BC
  go_upto_region 4 with fail
  go_cut [9, 10] from 31 (fun s1 s2 wx => ∃ (g : Nat) (A_ B_ : Option Addr) (c_ d_ : Nat), s1 = .pointer (some ⟨g, 0, none⟩) ∧ s2 = .int .i64 x21 ∧ Hid (GR.Blk wx g 27 #[.string k21, .slice A_ (J21).length c_, .slice B_ (M21).length d_]) ∧ Hid (OwnS wx m3.heap.size (.slice A_ (J21).length c_) (.slice B_ (M21).length d_) J21 M21) ∧ Hid (Below m3.heap.size m3 wx))
  case first =>
   as_aux_lemma =>
    have K0 : Hid (m3.cell? ⟨w.heap.size, 0, none⟩ = some (.string ka)) := Lib.hid ((F14.out.blk 10 rfl).cell 0)
    have K1 : Hid (m3.cell? ⟨w.heap.size, 1, none⟩ = some (.slice A a.length c1)) := Lib.hid ((F14.out.blk 10 rfl).cell 1)
    have K2 : Hid (m3.cell? ⟨w.heap.size, 2, none⟩ = some (.slice B l.length c2)) := Lib.hid ((F14.out.blk 10 rfl).cell 2)
    have pa_lt : w.heap.size < m3.heap.size := (F14.out.blk 10 rfl).lt
    have K3 : Hid (m3.cell? ⟨w.heap.size + 1, 0, none⟩ = some (.string kb)) := Lib.hid ((F14.out.blk 9 rfl).cell 0)
    have K4 : Hid (m3.cell? ⟨w.heap.size + 1, 1, none⟩ = some (.slice C b.length c3)) := Lib.hid ((F14.out.blk 9 rfl).cell 1)
    have K5 : Hid (m3.cell? ⟨w.heap.size + 1, 2, none⟩ = some (.slice D m.length c4)) := Lib.hid ((F14.out.blk 9 rfl).cell 2)
    have pb_lt : w.heap.size + 1 < m3.heap.size := (F14.out.blk 9 rfl).lt
    have DD_1 := Lib.hid (F14.out.rd 5 rfl)
    have DL_1 := Lib.hid (F14.out.rd 4 rfl)
    have DD_3 := Lib.hid (F14.out.rd 7 rfl)
    have DL_3 := Lib.hid (F14.out.rd 6 rfl)
    have HR := Lib.hid (Below.refl m3.heap.size m3)
    have HKEEP : Hid (∀ w', Below m3.heap.size m3 w' → (w'.cell? ⟨w.heap.size, 0, none⟩ = some (.string ka) ∧ w'.cell? ⟨w.heap.size, 1, none⟩ = some (.slice A a.length c1) ∧ w'.cell? ⟨w.heap.size, 2, none⟩ = some (.slice B l.length c2) ∧ w'.cell? ⟨w.heap.size + 1, 0, none⟩ = some (.string kb) ∧ w'.cell? ⟨w.heap.size + 1, 1, none⟩ = some (.slice C b.length c3) ∧ w'.cell? ⟨w.heap.size + 1, 2, none⟩ = some (.slice D m.length c4))) := Lib.hid (fun w' hb => ⟨(Below.cell (p := ⟨w.heap.size, 0, none⟩) hb (World.block_lt_of_cell? m3 _ K0.out)).trans K0.out, (Below.cell (p := ⟨w.heap.size, 1, none⟩) hb (World.block_lt_of_cell? m3 _ K1.out)).trans K1.out, (Below.cell (p := ⟨w.heap.size, 2, none⟩) hb (World.block_lt_of_cell? m3 _ K2.out)).trans K2.out, (Below.cell (p := ⟨w.heap.size + 1, 0, none⟩) hb (World.block_lt_of_cell? m3 _ K3.out)).trans K3.out, (Below.cell (p := ⟨w.heap.size + 1, 1, none⟩) hb (World.block_lt_of_cell? m3 _ K4.out)).trans K4.out, (Below.cell (p := ⟨w.heap.size + 1, 2, none⟩) hb (World.block_lt_of_cell? m3 _ K5.out)).trans K5.out⟩)
    refine wp_region_held_drew (S := fun w' => w'.cell? ⟨w.heap.size, 0, none⟩ = some (.string ka) ∧ w'.cell? ⟨w.heap.size, 1, none⟩ = some (.slice A a.length c1) ∧ w'.cell? ⟨w.heap.size, 2, none⟩ = some (.slice B l.length c2) ∧ w'.cell? ⟨w.heap.size + 1, 0, none⟩ = some (.string kb) ∧ w'.cell? ⟨w.heap.size + 1, 1, none⟩ = some (.slice C b.length c3) ∧ w'.cell? ⟨w.heap.size + 1, 2, none⟩ = some (.slice D m.length c4)) (by kernel_rfl) ?_ (fun hHeld => ?_)
    · exact ⟨K0.out, K1.out, K2.out, K3.out, K4.out, K5.out⟩
    refine wpAnyH_take (i := 0) (oi := { dst := some 32, op := Op.load 27 (Operand.tmp 4), type := 27, pos := "outright.go:79", after := #[], guard := none }) (v := ?_) rfl (by kernel_rfl) (by kernel_rfl) (by kernel_rfl) (fun _ _ _ h => h) (Or.inl ⟨by rfl, ?_⟩) (by assumption) ?_
    rotate_left
    · intro w_ hSw; (try dsimp only at hSw); go_simp; first | done | with_reducible rfl
    try simp only [Act.put, sA, s0, sS]
    refine wpAnyH_take (i := 2) (oi := { dst := some 34, op := Op.load 27 (Operand.tmp 3), type := 27, pos := "outright.go:79", after := #[], guard := none }) (v := ?_) rfl (by kernel_rfl) (by kernel_rfl) (by kernel_rfl) (fun _ _ _ h => h) (Or.inl ⟨by rfl, ?_⟩) (by assumption) ?_
    rotate_left
    · intro w_ hSw; (try dsimp only at hSw); go_simp; first | done | with_reducible rfl
    try simp only [Act.put, sA, s0, sS]
    refine wpAnyH_ready (rs := [1, 8]) (by kernel_rfl) (by simp) ?_
    refine AllReadyH.cons (o := { dst := some 33, op := Op.call { callee := Callee.value (Operand.func 10), args := #[Operand.tmp 32], argTypes := #[27] }, type := 27, pos := "outright.go:79", after := #[{ on := 0, ground := Ground.data }], guard := none }) rfl (fun K hK => ?_) (AllReadyH.cons (o := { dst := some 9, op := Op.alloc 27, type := 0, pos := "outright.go:79", after := #[], guard := none }) rfl (fun K hK => ?_) (AllReadyH.nil))
    · skip
      go_simp
      go_at_call 10
      refine (twinR_any kb C D c3 c4 b m _ (GR.Rd.below DD_1.out (by repeat (first | exact HR.out | refine bl_drewN ?_ _ | refine bl_drew ?_ | refine bl_alloc ?_ _))) (GR.Rd.below DL_1.out (by repeat (first | exact HR.out | refine bl_drewN ?_ _ | refine bl_drew ?_ | refine bl_alloc ?_ _))) sb sm).mono ?_
      rintro e q4_1 ⟨A_1, B_1, c_1, d_1, rfl, hra, hrl, hc1, _, hb2⟩
      have bx := bx_of (W := m3) hb2 (by repeat (first | exact HR.out | refine bl_drewN ?_ _ | refine bl_drew ?_ | refine bl_alloc ?_ _))
      have TD_1 := Lib.hid hra
      have TL_1 := Lib.hid hrl
      have TC_1 := hc1
      clear hra hrl
      have hs_1 : m3.heap.size ≤ q4_1.heap.size := (bl_then bx hb2).size
      replace HR := Lib.hid (bl_then bx hb2)
      clear hb2 bx
      refine hK.out _ _ ?_ (fun hHeld => ?_)
      · exact HKEEP.out _ (by repeat (first | exact HR.out | refine bl_drewN ?_ _ | refine bl_drew ?_ | refine bl_alloc ?_ _ | refine Below.setCell ?_ (by simp; try omega) _))
      clear hK K
      try simp only [Act.put, sA, s0, sS]
      refine wpAnyH_ready (rs := [3, 8]) (by kernel_rfl) (by simp) ?_
      refine AllReadyH.cons (o := { dst := some 35, op := Op.call { callee := Callee.value (Operand.func 10), args := #[Operand.tmp 34], argTypes := #[27] }, type := 27, pos := "outright.go:79", after := #[{ on := 2, ground := Ground.data }, { on := 1, ground := Ground.chain }], guard := none }) rfl (fun K hK => ?_) (AllReadyH.cons (o := { dst := some 9, op := Op.alloc 27, type := 0, pos := "outright.go:79", after := #[], guard := none }) rfl (fun K hK => ?_) (AllReadyH.nil))
      · skip
        go_simp
        go_at_call 10
        refine (twinR_any ka A B c1 c2 a l _ (GR.Rd.below DD_3.out (by repeat (first | exact HR.out | refine bl_drewN ?_ _ | refine bl_drew ?_ | refine bl_alloc ?_ _))) (GR.Rd.below DL_3.out (by repeat (first | exact HR.out | refine bl_drewN ?_ _ | refine bl_drew ?_ | refine bl_alloc ?_ _))) sa sl).mono ?_
        rintro e q4_3 ⟨A_3, B_3, c_3, d_3, rfl, hra, hrl, hc1, _, hb2⟩
        have bx := bx_of (W := m3) hb2 (by repeat (first | exact HR.out | refine bl_drewN ?_ _ | refine bl_drew ?_ | refine bl_alloc ?_ _))
        have br := bx_of (W := q4_1) hb2 (by repeat (first | exact Below.refl _ _ | refine bl_drewN ?_ _ | refine bl_drew ?_ | refine bl_alloc ?_ _))
        replace TD_1 := Lib.hid ((TD_1.out.below br).below hb2)
        replace TL_1 := Lib.hid ((TL_1.out.below br).below hb2)
        have TD_3 := Lib.hid hra
        have TL_3 := Lib.hid hrl
        have TC_3 := hc1
        clear hra hrl
        have hs_3 : m3.heap.size ≤ q4_3.heap.size := (bl_then bx hb2).size
        replace HR := Lib.hid (bl_then bx hb2)
        clear hb2 bx br
        refine hK.out _ _ ?_ (fun hHeld => ?_)
        · exact HKEEP.out _ (by repeat (first | exact HR.out | refine bl_drewN ?_ _ | refine bl_drew ?_ | refine bl_alloc ?_ _ | refine Below.setCell ?_ (by simp; try omega) _))
        clear hK K
        try simp only [Act.put, sA, s0, sS]
        refine wpAnyH_ready (rs := [4, 8]) (by kernel_rfl) (by simp) ?_
        refine AllReadyH.cons (o := { dst := some 36, op := Op.call { callee := Callee.value (Operand.func 12), args := #[Operand.tmp 33, Operand.tmp 35], argTypes := #[27, 27] }, type := 34, pos := "outright.go:79", after := #[{ on := 1, ground := Ground.data }, { on := 3, ground := Ground.data }, { on := 3, ground := Ground.chain }], guard := none }) rfl (fun K hK => ?_) (AllReadyH.cons (o := { dst := some 9, op := Op.alloc 27, type := 0, pos := "outright.go:79", after := #[], guard := none }) rfl (fun K hK => ?_) (AllReadyH.nil))
        · skip
          go_simp
          go_at_call 12
          refine (mrgO (J21) (M21) x21 (GR.Rd.below (w := q4_3) TD_1.out (by repeat (first | exact Below.refl _ _ | refine bl_drewN ?_ _ | refine bl_drew ?_ | refine bl_alloc ?_ _))) (GR.Rd.below (w := q4_3) TL_1.out (by repeat (first | exact Below.refl _ _ | refine bl_drewN ?_ _ | refine bl_drew ?_ | refine bl_alloc ?_ _))) (GR.Rd.below (w := q4_3) TD_3.out (by repeat (first | exact Below.refl _ _ | refine bl_drewN ?_ _ | refine bl_drew ?_ | refine bl_alloc ?_ _))) (GR.Rd.below (w := q4_3) TL_3.out (by repeat (first | exact Below.refl _ _ | refine bl_drewN ?_ _ | refine bl_drew ?_ | refine bl_alloc ?_ _))) rfl rfl rfl rfl TC_1 TC_3 HR2.out HR1.out E21k.out E21j.out E21m.out E21x.out).mono ?_
          rintro e q4_4 ⟨A_, B_, c_, d_, rfl, ho, hb2⟩
          have bx := bx_of (W := m3) hb2 (by repeat (first | exact HR.out | refine bl_drewN ?_ _ | refine bl_drew ?_ | refine bl_alloc ?_ _))
          have br := bx_of (W := q4_3) hb2 (by repeat (first | exact Below.refl _ _ | refine bl_drewN ?_ _ | refine bl_drew ?_ | refine bl_alloc ?_ _))
          replace TD_1 := Lib.hid ((TD_1.out.below br).below hb2)
          replace TL_1 := Lib.hid ((TL_1.out.below br).below hb2)
          replace TD_3 := Lib.hid ((TD_3.out.below br).below hb2)
          replace TL_3 := Lib.hid ((TL_3.out.below br).below hb2)
          have HO := Lib.hid (OwnS.base ho (B' := m3.heap.size) bx.size)
          clear ho
          have hs_4 : m3.heap.size ≤ q4_4.heap.size := (bl_then bx hb2).size
          replace HR := Lib.hid (bl_then bx hb2)
          clear hb2 bx br
          refine hK.out _ _ ?_ (fun hHeld => ?_)
          · exact HKEEP.out _ (by repeat (first | exact HR.out | refine bl_drewN ?_ _ | refine bl_drew ?_ | refine bl_alloc ?_ _ | refine Below.setCell ?_ (by simp; try omega) _))
          clear hK K
          try simp only [Act.put, sA, s0, sS]
          refine wpAnyH_take (i := 5) (oi := { dst := some 31, op := Op.move (Operand.tmp 36), type := 34, pos := "outright.go:79", after := #[{ on := 4, ground := Ground.data }], guard := none }) (v := ?_) rfl (by kernel_rfl) (by kernel_rfl) (by kernel_rfl) (fun _ _ _ h => h) (Or.inl ⟨by rfl, ?_⟩) (by assumption) ?_
          rotate_left
          · intro w_ hSw; (try dsimp only at hSw); go_simp; first | done | with_reducible rfl
          try simp only [Act.put, sA, s0, sS]
          refine wpAnyH_take (i := 6) (oi := { dst := some 37, op := Op.extract (Operand.tmp 31) 0, type := 27, pos := "outright.go:79", after := #[{ on := 5, ground := Ground.data }], guard := none }) (v := ?_) rfl (by kernel_rfl) (by kernel_rfl) (by kernel_rfl) (fun _ _ _ h => h) (Or.inl ⟨by rfl, ?_⟩) (by assumption) ?_
          rotate_left
          · intro w_ hSw; (try dsimp only at hSw); go_simp; first | done | with_reducible rfl
          try simp only [Act.put, sA, s0, sS]
          refine wpAnyH_take (i := 7) (oi := { dst := some 38, op := Op.extract (Operand.tmp 31) 1, type := 33, pos := "outright.go:79", after := #[{ on := 5, ground := Ground.data }, { on := 9, ground := Ground.gcOnly Departure.lateStores }], guard := none }) (v := ?_) rfl (by kernel_rfl) (by kernel_rfl) (by kernel_rfl) (fun _ _ _ h => h) (Or.inl ⟨by rfl, ?_⟩) (by assumption) ?_
          rotate_left
          · intro w_ hSw; (try dsimp only at hSw); go_simp; first | done | with_reducible rfl
          try simp only [Act.put, sA, s0, sS]
          refine wpAnyH_ready (rs := [8]) (by kernel_rfl) (by simp) ?_
          refine AllReadyH.cons (o := { dst := some 9, op := Op.alloc 27, type := 0, pos := "outright.go:79", after := #[], guard := none }) rfl (fun K hK => ?_) (AllReadyH.nil)
          go_simp
          skip
          refine hK.out _ _ ?_ (fun hHeld => ?_)
          · exact HKEEP.out _ (by repeat (first | exact HR.out | refine bl_drewN ?_ _ | refine bl_drew ?_ | refine bl_alloc ?_ _ | refine Below.setCell ?_ (by simp; try omega) _))
          clear hK K
          try simp only [Act.put, sA, s0, sS]
          refine wpAnyH_ready (rs := [9]) (by kernel_rfl) (by simp) ?_
          refine AllReadyH.cons (o := { dst := none, op := Op.store 27 (Operand.tmp 9) (Operand.tmp 37), type := 0, pos := "outright.go:79", after := #[{ on := 8, ground := Ground.data }, { on := 6, ground := Ground.data }, { on := 4, ground := Ground.chain }, { on := 0, ground := Ground.phase }, { on := 1, ground := Ground.phase }, { on := 2, ground := Ground.phase }, { on := 3, ground := Ground.phase }, { on := 4, ground := Ground.phase }, { on := 5, ground := Ground.phase }, { on := 6, ground := Ground.phase }, { on := 7, ground := Ground.textOnly Departure.lateStores }, { on := 8, ground := Ground.phase }], guard := none }) rfl (fun K hK => ?_) (AllReadyH.nil)
          go_simp
          skip
          refine hK.out _ _ ?_ (fun hHeld => ?_)
          · exact HKEEP.out _ (by repeat (first | exact HR.out | refine bl_drewN ?_ _ | refine bl_drew ?_ | refine bl_alloc ?_ _ | refine Below.setCell ?_ (by simp; try omega) _))
          clear hK K
          try simp only [Act.put, sA, s0, sS]
          refine wpAnyH_take (i := 10) (oi := { dst := some 10, op := Op.assign (Operand.tmp 38), type := 33, pos := "outright.go:79", after := #[{ on := 7, ground := Ground.data }, { on := 9, ground := Ground.chain }, { on := 0, ground := Ground.phase }, { on := 1, ground := Ground.phase }, { on := 2, ground := Ground.phase }, { on := 3, ground := Ground.phase }, { on := 4, ground := Ground.phase }, { on := 5, ground := Ground.phase }, { on := 6, ground := Ground.phase }, { on := 7, ground := Ground.phase }, { on := 8, ground := Ground.phase }, { on := 9, ground := Ground.phase }], guard := none }) (v := ?_) rfl (by kernel_rfl) (by kernel_rfl) (by kernel_rfl) (fun _ _ _ h => h) (Or.inl ⟨by rfl, ?_⟩) (by assumption) ?_
          rotate_left
          · intro w_ hSw; (try dsimp only at hSw); go_simp; first | done | with_reducible rfl
          try simp only [Act.put, sA, s0, sS]
          refine wpAnyH_done (by kernel_rfl) ?_ _
          go_wp2_with fail
          go_meet
          exact ⟨_, A_, B_, c_, d_, rfl, rfl, Lib.hid (GR.Blk.new _ _ _), Lib.hid (OwnS.below HO.out (by repeat (first | exact Below.refl _ _ | refine bl_drewN ?_ _ | refine bl_drew ?_ | refine bl_alloc ?_ _))), Lib.hid (by repeat (first | exact HR.out | refine bl_drewN ?_ _ | refine bl_drew ?_ | refine bl_alloc ?_ _))⟩
        · skip
          go_simp
          skip
          refine hK.out _ _ ?_ (fun hHeld => ?_)
          · exact HKEEP.out _ (by repeat (first | exact HR.out | refine bl_drewN ?_ _ | refine bl_drew ?_ | refine bl_alloc ?_ _ | refine Below.setCell ?_ (by simp; try omega) _))
          clear hK K
          try simp only [Act.put, sA, s0, sS]
          refine wpAnyH_ready (rs := [4]) (by kernel_rfl) (by simp) ?_
          refine AllReadyH.cons (o := { dst := some 36, op := Op.call { callee := Callee.value (Operand.func 12), args := #[Operand.tmp 33, Operand.tmp 35], argTypes := #[27, 27] }, type := 34, pos := "outright.go:79", after := #[{ on := 1, ground := Ground.data }, { on := 3, ground := Ground.data }, { on := 3, ground := Ground.chain }], guard := none }) rfl (fun K hK => ?_) (AllReadyH.nil)
          go_simp
          go_at_call 12
          refine (mrgO (J21) (M21) x21 (GR.Rd.below (w := q4_3) TD_1.out (by repeat (first | exact Below.refl _ _ | refine bl_drewN ?_ _ | refine bl_drew ?_ | refine bl_alloc ?_ _))) (GR.Rd.below (w := q4_3) TL_1.out (by repeat (first | exact Below.refl _ _ | refine bl_drewN ?_ _ | refine bl_drew ?_ | refine bl_alloc ?_ _))) (GR.Rd.below (w := q4_3) TD_3.out (by repeat (first | exact Below.refl _ _ | refine bl_drewN ?_ _ | refine bl_drew ?_ | refine bl_alloc ?_ _))) (GR.Rd.below (w := q4_3) TL_3.out (by repeat (first | exact Below.refl _ _ | refine bl_drewN ?_ _ | refine bl_drew ?_ | refine bl_alloc ?_ _))) rfl rfl rfl rfl TC_1 TC_3 HR2.out HR1.out E21k.out E21j.out E21m.out E21x.out).mono ?_
          rintro e q4_4 ⟨A_, B_, c_, d_, rfl, ho, hb2⟩
          have bx := bx_of (W := m3) hb2 (by repeat (first | exact HR.out | refine bl_drewN ?_ _ | refine bl_drew ?_ | refine bl_alloc ?_ _))
          have br := bx_of (W := q4_3) hb2 (by repeat (first | exact Below.refl _ _ | refine bl_drewN ?_ _ | refine bl_drew ?_ | refine bl_alloc ?_ _))
          replace TD_1 := Lib.hid ((TD_1.out.below br).below hb2)
          replace TL_1 := Lib.hid ((TL_1.out.below br).below hb2)
          replace TD_3 := Lib.hid ((TD_3.out.below br).below hb2)
          replace TL_3 := Lib.hid ((TL_3.out.below br).below hb2)
          have XG : Hid (GR.Blk q4_4 q4_3.heap.size 27 #[.string ⟨#[]⟩, .slice none 0 0, .slice none 0 0]) := Lib.hid (by
           refine GR.Blk.below ?_ hb2 ?_
           · exact new_at _ _ _ (by simp)
           · simp)
          have HO := Lib.hid (OwnS.base ho (B' := m3.heap.size) bx.size)
          clear ho
          have e0 := XG.out.cell 0
          have e1 := XG.out.cell 1
          have e2 := XG.out.cell 2
          have f0 := XG.out.frozen 0
          have f1 := XG.out.frozen 1
          have f2 := XG.out.frozen 2
          have hs_4 : m3.heap.size ≤ q4_4.heap.size := (bl_then bx hb2).size
          replace HR := Lib.hid (bl_then bx hb2)
          clear hb2 bx br
          refine hK.out _ _ ?_ (fun hHeld => ?_)
          · exact HKEEP.out _ (by repeat (first | exact HR.out | refine bl_drewN ?_ _ | refine bl_drew ?_ | refine bl_alloc ?_ _ | refine Below.setCell ?_ (by simp; try omega) _))
          clear hK K
          try simp only [Act.put, sA, s0, sS]
          refine wpAnyH_take (i := 5) (oi := { dst := some 31, op := Op.move (Operand.tmp 36), type := 34, pos := "outright.go:79", after := #[{ on := 4, ground := Ground.data }], guard := none }) (v := ?_) rfl (by kernel_rfl) (by kernel_rfl) (by kernel_rfl) (fun _ _ _ h => h) (Or.inl ⟨by rfl, ?_⟩) (by assumption) ?_
          rotate_left
          · intro w_ hSw; (try dsimp only at hSw); go_simp; first | done | with_reducible rfl
          try simp only [Act.put, sA, s0, sS]
          refine wpAnyH_take (i := 6) (oi := { dst := some 37, op := Op.extract (Operand.tmp 31) 0, type := 27, pos := "outright.go:79", after := #[{ on := 5, ground := Ground.data }], guard := none }) (v := ?_) rfl (by kernel_rfl) (by kernel_rfl) (by kernel_rfl) (fun _ _ _ h => h) (Or.inl ⟨by rfl, ?_⟩) (by assumption) ?_
          rotate_left
          · intro w_ hSw; (try dsimp only at hSw); go_simp; first | done | with_reducible rfl
          try simp only [Act.put, sA, s0, sS]
          refine wpAnyH_take (i := 7) (oi := { dst := some 38, op := Op.extract (Operand.tmp 31) 1, type := 33, pos := "outright.go:79", after := #[{ on := 5, ground := Ground.data }, { on := 9, ground := Ground.gcOnly Departure.lateStores }], guard := none }) (v := ?_) rfl (by kernel_rfl) (by kernel_rfl) (by kernel_rfl) (fun _ _ _ h => h) (Or.inl ⟨by rfl, ?_⟩) (by assumption) ?_
          rotate_left
          · intro w_ hSw; (try dsimp only at hSw); go_simp; first | done | with_reducible rfl
          try simp only [Act.put, sA, s0, sS]
          refine wpAnyH_ready (rs := [9]) (by kernel_rfl) (by simp) ?_
          refine AllReadyH.cons (o := { dst := none, op := Op.store 27 (Operand.tmp 9) (Operand.tmp 37), type := 0, pos := "outright.go:79", after := #[{ on := 8, ground := Ground.data }, { on := 6, ground := Ground.data }, { on := 4, ground := Ground.chain }, { on := 0, ground := Ground.phase }, { on := 1, ground := Ground.phase }, { on := 2, ground := Ground.phase }, { on := 3, ground := Ground.phase }, { on := 4, ground := Ground.phase }, { on := 5, ground := Ground.phase }, { on := 6, ground := Ground.phase }, { on := 7, ground := Ground.textOnly Departure.lateStores }, { on := 8, ground := Ground.phase }], guard := none }) rfl (fun K hK => ?_) (AllReadyH.nil)
          go_simp
          skip
          refine hK.out _ _ ?_ (fun hHeld => ?_)
          · exact HKEEP.out _ (by repeat (first | exact HR.out | refine bl_drewN ?_ _ | refine bl_drew ?_ | refine bl_alloc ?_ _ | refine Below.setCell ?_ (by simp; try omega) _))
          clear hK K
          try simp only [Act.put, sA, s0, sS]
          refine wpAnyH_take (i := 10) (oi := { dst := some 10, op := Op.assign (Operand.tmp 38), type := 33, pos := "outright.go:79", after := #[{ on := 7, ground := Ground.data }, { on := 9, ground := Ground.chain }, { on := 0, ground := Ground.phase }, { on := 1, ground := Ground.phase }, { on := 2, ground := Ground.phase }, { on := 3, ground := Ground.phase }, { on := 4, ground := Ground.phase }, { on := 5, ground := Ground.phase }, { on := 6, ground := Ground.phase }, { on := 7, ground := Ground.phase }, { on := 8, ground := Ground.phase }, { on := 9, ground := Ground.phase }], guard := none }) (v := ?_) rfl (by kernel_rfl) (by kernel_rfl) (by kernel_rfl) (fun _ _ _ h => h) (Or.inl ⟨by rfl, ?_⟩) (by assumption) ?_
          rotate_left
          · intro w_ hSw; (try dsimp only at hSw); go_simp; first | done | with_reducible rfl
          try simp only [Act.put, sA, s0, sS]
          refine wpAnyH_done (by kernel_rfl) ?_ _
          clear e0 e1 e2 f0 f1 f2
          go_wp2_with fail
          go_meet
          exact ⟨_, A_, B_, c_, d_, rfl, rfl, Lib.hid (ob_put HO.out XG.out).2, Lib.hid (ob_put HO.out XG.out).1, Lib.hid (by repeat (first | exact HR.out | refine Below.setCell ?_ (by simp; try omega) _))⟩
      · skip
        go_simp
        skip
        refine hK.out _ _ ?_ (fun hHeld => ?_)
        · exact HKEEP.out _ (by repeat (first | exact HR.out | refine bl_drewN ?_ _ | refine bl_drew ?_ | refine bl_alloc ?_ _ | refine Below.setCell ?_ (by simp; try omega) _))
        clear hK K
        try simp only [Act.put, sA, s0, sS]
        refine wpAnyH_ready (rs := [3]) (by kernel_rfl) (by simp) ?_
        refine AllReadyH.cons (o := { dst := some 35, op := Op.call { callee := Callee.value (Operand.func 10), args := #[Operand.tmp 34], argTypes := #[27] }, type := 27, pos := "outright.go:79", after := #[{ on := 2, ground := Ground.data }, { on := 1, ground := Ground.chain }], guard := none }) rfl (fun K hK => ?_) (AllReadyH.nil)
        go_simp
        go_at_call 10
        refine (twinR_any ka A B c1 c2 a l _ (GR.Rd.below DD_3.out (by repeat (first | exact HR.out | refine bl_drewN ?_ _ | refine bl_drew ?_ | refine bl_alloc ?_ _))) (GR.Rd.below DL_3.out (by repeat (first | exact HR.out | refine bl_drewN ?_ _ | refine bl_drew ?_ | refine bl_alloc ?_ _))) sa sl).mono ?_
        rintro e q4_3 ⟨A_3, B_3, c_3, d_3, rfl, hra, hrl, hc1, _, hb2⟩
        have bx := bx_of (W := m3) hb2 (by repeat (first | exact HR.out | refine bl_drewN ?_ _ | refine bl_drew ?_ | refine bl_alloc ?_ _))
        have br := bx_of (W := q4_1) hb2 (by repeat (first | exact Below.refl _ _ | refine bl_drewN ?_ _ | refine bl_drew ?_ | refine bl_alloc ?_ _))
        replace TD_1 := Lib.hid ((TD_1.out.below br).below hb2)
        replace TL_1 := Lib.hid ((TL_1.out.below br).below hb2)
        have TD_3 := Lib.hid hra
        have TL_3 := Lib.hid hrl
        have TC_3 := hc1
        clear hra hrl
        have XG : Hid (GR.Blk q4_3 q4_1.heap.size 27 #[.string ⟨#[]⟩, .slice none 0 0, .slice none 0 0]) := Lib.hid (by
         refine GR.Blk.below ?_ hb2 ?_
         · exact new_at _ _ _ (by simp)
         · simp)
        have hs_3 : m3.heap.size ≤ q4_3.heap.size := (bl_then bx hb2).size
        replace HR := Lib.hid (bl_then bx hb2)
        clear hb2 bx br
        refine hK.out _ _ ?_ (fun hHeld => ?_)
        · exact HKEEP.out _ (by repeat (first | exact HR.out | refine bl_drewN ?_ _ | refine bl_drew ?_ | refine bl_alloc ?_ _ | refine Below.setCell ?_ (by simp; try omega) _))
        clear hK K
        try simp only [Act.put, sA, s0, sS]
        refine wpAnyH_ready (rs := [4]) (by kernel_rfl) (by simp) ?_
        refine AllReadyH.cons (o := { dst := some 36, op := Op.call { callee := Callee.value (Operand.func 12), args := #[Operand.tmp 33, Operand.tmp 35], argTypes := #[27, 27] }, type := 34, pos := "outright.go:79", after := #[{ on := 1, ground := Ground.data }, { on := 3, ground := Ground.data }, { on := 3, ground := Ground.chain }], guard := none }) rfl (fun K hK => ?_) (AllReadyH.nil)
        go_simp
        go_at_call 12
        refine (mrgO (J21) (M21) x21 (GR.Rd.below (w := q4_3) TD_1.out (by repeat (first | exact Below.refl _ _ | refine bl_drewN ?_ _ | refine bl_drew ?_ | refine bl_alloc ?_ _))) (GR.Rd.below (w := q4_3) TL_1.out (by repeat (first | exact Below.refl _ _ | refine bl_drewN ?_ _ | refine bl_drew ?_ | refine bl_alloc ?_ _))) (GR.Rd.below (w := q4_3) TD_3.out (by repeat (first | exact Below.refl _ _ | refine bl_drewN ?_ _ | refine bl_drew ?_ | refine bl_alloc ?_ _))) (GR.Rd.below (w := q4_3) TL_3.out (by repeat (first | exact Below.refl _ _ | refine bl_drewN ?_ _ | refine bl_drew ?_ | refine bl_alloc ?_ _))) rfl rfl rfl rfl TC_1 TC_3 HR2.out HR1.out E21k.out E21j.out E21m.out E21x.out).mono ?_
        rintro e q4_4 ⟨A_, B_, c_, d_, rfl, ho, hb2⟩
        have bx := bx_of (W := m3) hb2 (by repeat (first | exact HR.out | refine bl_drewN ?_ _ | refine bl_drew ?_ | refine bl_alloc ?_ _))
        have br := bx_of (W := q4_3) hb2 (by repeat (first | exact Below.refl _ _ | refine bl_drewN ?_ _ | refine bl_drew ?_ | refine bl_alloc ?_ _))
        replace TD_1 := Lib.hid ((TD_1.out.below br).below hb2)
        replace TL_1 := Lib.hid ((TL_1.out.below br).below hb2)
        replace TD_3 := Lib.hid ((TD_3.out.below br).below hb2)
        replace TL_3 := Lib.hid ((TL_3.out.below br).below hb2)
        replace XG := Lib.hid (blk_up XG.out br hb2)
        have HO := Lib.hid (OwnS.base ho (B' := m3.heap.size) bx.size)
        clear ho
        have e0 := XG.out.cell 0
        have e1 := XG.out.cell 1
        have e2 := XG.out.cell 2
        have f0 := XG.out.frozen 0
        have f1 := XG.out.frozen 1
        have f2 := XG.out.frozen 2
        have hs_4 : m3.heap.size ≤ q4_4.heap.size := (bl_then bx hb2).size
        replace HR := Lib.hid (bl_then bx hb2)
        clear hb2 bx br
        refine hK.out _ _ ?_ (fun hHeld => ?_)
        · exact HKEEP.out _ (by repeat (first | exact HR.out | refine bl_drewN ?_ _ | refine bl_drew ?_ | refine bl_alloc ?_ _ | refine Below.setCell ?_ (by simp; try omega) _))
        clear hK K
        try simp only [Act.put, sA, s0, sS]
        refine wpAnyH_take (i := 5) (oi := { dst := some 31, op := Op.move (Operand.tmp 36), type := 34, pos := "outright.go:79", after := #[{ on := 4, ground := Ground.data }], guard := none }) (v := ?_) rfl (by kernel_rfl) (by kernel_rfl) (by kernel_rfl) (fun _ _ _ h => h) (Or.inl ⟨by rfl, ?_⟩) (by assumption) ?_
        rotate_left
        · intro w_ hSw; (try dsimp only at hSw); go_simp; first | done | with_reducible rfl
        try simp only [Act.put, sA, s0, sS]
        refine wpAnyH_take (i := 6) (oi := { dst := some 37, op := Op.extract (Operand.tmp 31) 0, type := 27, pos := "outright.go:79", after := #[{ on := 5, ground := Ground.data }], guard := none }) (v := ?_) rfl (by kernel_rfl) (by kernel_rfl) (by kernel_rfl) (fun _ _ _ h => h) (Or.inl ⟨by rfl, ?_⟩) (by assumption) ?_
        rotate_left
        · intro w_ hSw; (try dsimp only at hSw); go_simp; first | done | with_reducible rfl
        try simp only [Act.put, sA, s0, sS]
        refine wpAnyH_take (i := 7) (oi := { dst := some 38, op := Op.extract (Operand.tmp 31) 1, type := 33, pos := "outright.go:79", after := #[{ on := 5, ground := Ground.data }, { on := 9, ground := Ground.gcOnly Departure.lateStores }], guard := none }) (v := ?_) rfl (by kernel_rfl) (by kernel_rfl) (by kernel_rfl) (fun _ _ _ h => h) (Or.inl ⟨by rfl, ?_⟩) (by assumption) ?_
        rotate_left
        · intro w_ hSw; (try dsimp only at hSw); go_simp; first | done | with_reducible rfl
        try simp only [Act.put, sA, s0, sS]
        refine wpAnyH_ready (rs := [9]) (by kernel_rfl) (by simp) ?_
        refine AllReadyH.cons (o := { dst := none, op := Op.store 27 (Operand.tmp 9) (Operand.tmp 37), type := 0, pos := "outright.go:79", after := #[{ on := 8, ground := Ground.data }, { on := 6, ground := Ground.data }, { on := 4, ground := Ground.chain }, { on := 0, ground := Ground.phase }, { on := 1, ground := Ground.phase }, { on := 2, ground := Ground.phase }, { on := 3, ground := Ground.phase }, { on := 4, ground := Ground.phase }, { on := 5, ground := Ground.phase }, { on := 6, ground := Ground.phase }, { on := 7, ground := Ground.textOnly Departure.lateStores }, { on := 8, ground := Ground.phase }], guard := none }) rfl (fun K hK => ?_) (AllReadyH.nil)
        go_simp
        skip
        refine hK.out _ _ ?_ (fun hHeld => ?_)
        · exact HKEEP.out _ (by repeat (first | exact HR.out | refine bl_drewN ?_ _ | refine bl_drew ?_ | refine bl_alloc ?_ _ | refine Below.setCell ?_ (by simp; try omega) _))
        clear hK K
        try simp only [Act.put, sA, s0, sS]
        refine wpAnyH_take (i := 10) (oi := { dst := some 10, op := Op.assign (Operand.tmp 38), type := 33, pos := "outright.go:79", after := #[{ on := 7, ground := Ground.data }, { on := 9, ground := Ground.chain }, { on := 0, ground := Ground.phase }, { on := 1, ground := Ground.phase }, { on := 2, ground := Ground.phase }, { on := 3, ground := Ground.phase }, { on := 4, ground := Ground.phase }, { on := 5, ground := Ground.phase }, { on := 6, ground := Ground.phase }, { on := 7, ground := Ground.phase }, { on := 8, ground := Ground.phase }, { on := 9, ground := Ground.phase }], guard := none }) (v := ?_) rfl (by kernel_rfl) (by kernel_rfl) (by kernel_rfl) (fun _ _ _ h => h) (Or.inl ⟨by rfl, ?_⟩) (by assumption) ?_
        rotate_left
        · intro w_ hSw; (try dsimp only at hSw); go_simp; first | done | with_reducible rfl
        try simp only [Act.put, sA, s0, sS]
        refine wpAnyH_done (by kernel_rfl) ?_ _
        clear e0 e1 e2 f0 f1 f2
        go_wp2_with fail
        go_meet
        exact ⟨_, A_, B_, c_, d_, rfl, rfl, Lib.hid (ob_put HO.out XG.out).2, Lib.hid (ob_put HO.out XG.out).1, Lib.hid (by repeat (first | exact HR.out | refine Below.setCell ?_ (by simp; try omega) _))⟩
    · skip
      go_simp
      skip
      refine hK.out _ _ ?_ (fun hHeld => ?_)
      · exact HKEEP.out _ (by repeat (first | exact HR.out | refine bl_drewN ?_ _ | refine bl_drew ?_ | refine bl_alloc ?_ _ | refine Below.setCell ?_ (by simp; try omega) _))
      clear hK K
      try simp only [Act.put, sA, s0, sS]
      refine wpAnyH_ready (rs := [1]) (by kernel_rfl) (by simp) ?_
      refine AllReadyH.cons (o := { dst := some 33, op := Op.call { callee := Callee.value (Operand.func 10), args := #[Operand.tmp 32], argTypes := #[27] }, type := 27, pos := "outright.go:79", after := #[{ on := 0, ground := Ground.data }], guard := none }) rfl (fun K hK => ?_) (AllReadyH.nil)
      go_simp
      go_at_call 10
      refine (twinR_any kb C D c3 c4 b m _ (GR.Rd.below DD_1.out (by repeat (first | exact HR.out | refine bl_drewN ?_ _ | refine bl_drew ?_ | refine bl_alloc ?_ _))) (GR.Rd.below DL_1.out (by repeat (first | exact HR.out | refine bl_drewN ?_ _ | refine bl_drew ?_ | refine bl_alloc ?_ _))) sb sm).mono ?_
      rintro e q4_1 ⟨A_1, B_1, c_1, d_1, rfl, hra, hrl, hc1, _, hb2⟩
      have bx := bx_of (W := m3) hb2 (by repeat (first | exact HR.out | refine bl_drewN ?_ _ | refine bl_drew ?_ | refine bl_alloc ?_ _))
      have TD_1 := Lib.hid hra
      have TL_1 := Lib.hid hrl
      have TC_1 := hc1
      clear hra hrl
      have XG : Hid (GR.Blk q4_1 m3.heap.size 27 #[.string ⟨#[]⟩, .slice none 0 0, .slice none 0 0]) := Lib.hid (by
       refine GR.Blk.below ?_ hb2 ?_
       · exact new_at _ _ _ (by simp)
       · simp)
      have hs_1 : m3.heap.size ≤ q4_1.heap.size := (bl_then bx hb2).size
      replace HR := Lib.hid (bl_then bx hb2)
      clear hb2 bx
      refine hK.out _ _ ?_ (fun hHeld => ?_)
      · exact HKEEP.out _ (by repeat (first | exact HR.out | refine bl_drewN ?_ _ | refine bl_drew ?_ | refine bl_alloc ?_ _ | refine Below.setCell ?_ (by simp; try omega) _))
      clear hK K
      try simp only [Act.put, sA, s0, sS]
      refine wpAnyH_ready (rs := [3]) (by kernel_rfl) (by simp) ?_
      refine AllReadyH.cons (o := { dst := some 35, op := Op.call { callee := Callee.value (Operand.func 10), args := #[Operand.tmp 34], argTypes := #[27] }, type := 27, pos := "outright.go:79", after := #[{ on := 2, ground := Ground.data }, { on := 1, ground := Ground.chain }], guard := none }) rfl (fun K hK => ?_) (AllReadyH.nil)
      go_simp
      go_at_call 10
      refine (twinR_any ka A B c1 c2 a l _ (GR.Rd.below DD_3.out (by repeat (first | exact HR.out | refine bl_drewN ?_ _ | refine bl_drew ?_ | refine bl_alloc ?_ _))) (GR.Rd.below DL_3.out (by repeat (first | exact HR.out | refine bl_drewN ?_ _ | refine bl_drew ?_ | refine bl_alloc ?_ _))) sa sl).mono ?_
      rintro e q4_3 ⟨A_3, B_3, c_3, d_3, rfl, hra, hrl, hc1, _, hb2⟩
      have bx := bx_of (W := m3) hb2 (by repeat (first | exact HR.out | refine bl_drewN ?_ _ | refine bl_drew ?_ | refine bl_alloc ?_ _))
      have br := bx_of (W := q4_1) hb2 (by repeat (first | exact Below.refl _ _ | refine bl_drewN ?_ _ | refine bl_drew ?_ | refine bl_alloc ?_ _))
      replace TD_1 := Lib.hid ((TD_1.out.below br).below hb2)
      replace TL_1 := Lib.hid ((TL_1.out.below br).below hb2)
      have TD_3 := Lib.hid hra
      have TL_3 := Lib.hid hrl
      have TC_3 := hc1
      clear hra hrl
      replace XG := Lib.hid (blk_up XG.out br hb2)
      have hs_3 : m3.heap.size ≤ q4_3.heap.size := (bl_then bx hb2).size
      replace HR := Lib.hid (bl_then bx hb2)
      clear hb2 bx br
      refine hK.out _ _ ?_ (fun hHeld => ?_)
      · exact HKEEP.out _ (by repeat (first | exact HR.out | refine bl_drewN ?_ _ | refine bl_drew ?_ | refine bl_alloc ?_ _ | refine Below.setCell ?_ (by simp; try omega) _))
      clear hK K
      try simp only [Act.put, sA, s0, sS]
      refine wpAnyH_ready (rs := [4]) (by kernel_rfl) (by simp) ?_
      refine AllReadyH.cons (o := { dst := some 36, op := Op.call { callee := Callee.value (Operand.func 12), args := #[Operand.tmp 33, Operand.tmp 35], argTypes := #[27, 27] }, type := 34, pos := "outright.go:79", after := #[{ on := 1, ground := Ground.data }, { on := 3, ground := Ground.data }, { on := 3, ground := Ground.chain }], guard := none }) rfl (fun K hK => ?_) (AllReadyH.nil)
      go_simp
      go_at_call 12
      refine (mrgO (J21) (M21) x21 (GR.Rd.below (w := q4_3) TD_1.out (by repeat (first | exact Below.refl _ _ | refine bl_drewN ?_ _ | refine bl_drew ?_ | refine bl_alloc ?_ _))) (GR.Rd.below (w := q4_3) TL_1.out (by repeat (first | exact Below.refl _ _ | refine bl_drewN ?_ _ | refine bl_drew ?_ | refine bl_alloc ?_ _))) (GR.Rd.below (w := q4_3) TD_3.out (by repeat (first | exact Below.refl _ _ | refine bl_drewN ?_ _ | refine bl_drew ?_ | refine bl_alloc ?_ _))) (GR.Rd.below (w := q4_3) TL_3.out (by repeat (first | exact Below.refl _ _ | refine bl_drewN ?_ _ | refine bl_drew ?_ | refine bl_alloc ?_ _))) rfl rfl rfl rfl TC_1 TC_3 HR2.out HR1.out E21k.out E21j.out E21m.out E21x.out).mono ?_
      rintro e q4_4 ⟨A_, B_, c_, d_, rfl, ho, hb2⟩
      have bx := bx_of (W := m3) hb2 (by repeat (first | exact HR.out | refine bl_drewN ?_ _ | refine bl_drew ?_ | refine bl_alloc ?_ _))
      have br := bx_of (W := q4_3) hb2 (by repeat (first | exact Below.refl _ _ | refine bl_drewN ?_ _ | refine bl_drew ?_ | refine bl_alloc ?_ _))
      replace TD_1 := Lib.hid ((TD_1.out.below br).below hb2)
      replace TL_1 := Lib.hid ((TL_1.out.below br).below hb2)
      replace TD_3 := Lib.hid ((TD_3.out.below br).below hb2)
      replace TL_3 := Lib.hid ((TL_3.out.below br).below hb2)
      replace XG := Lib.hid (blk_up XG.out br hb2)
      have HO := Lib.hid (OwnS.base ho (B' := m3.heap.size) bx.size)
      clear ho
      have e0 := XG.out.cell 0
      have e1 := XG.out.cell 1
      have e2 := XG.out.cell 2
      have f0 := XG.out.frozen 0
      have f1 := XG.out.frozen 1
      have f2 := XG.out.frozen 2
      have hs_4 : m3.heap.size ≤ q4_4.heap.size := (bl_then bx hb2).size
      replace HR := Lib.hid (bl_then bx hb2)
      clear hb2 bx br
      refine hK.out _ _ ?_ (fun hHeld => ?_)
      · exact HKEEP.out _ (by repeat (first | exact HR.out | refine bl_drewN ?_ _ | refine bl_drew ?_ | refine bl_alloc ?_ _ | refine Below.setCell ?_ (by simp; try omega) _))
      clear hK K
      try simp only [Act.put, sA, s0, sS]
      refine wpAnyH_take (i := 5) (oi := { dst := some 31, op := Op.move (Operand.tmp 36), type := 34, pos := "outright.go:79", after := #[{ on := 4, ground := Ground.data }], guard := none }) (v := ?_) rfl (by kernel_rfl) (by kernel_rfl) (by kernel_rfl) (fun _ _ _ h => h) (Or.inl ⟨by rfl, ?_⟩) (by assumption) ?_
      rotate_left
      · intro w_ hSw; (try dsimp only at hSw); go_simp; first | done | with_reducible rfl
      try simp only [Act.put, sA, s0, sS]
      refine wpAnyH_take (i := 6) (oi := { dst := some 37, op := Op.extract (Operand.tmp 31) 0, type := 27, pos := "outright.go:79", after := #[{ on := 5, ground := Ground.data }], guard := none }) (v := ?_) rfl (by kernel_rfl) (by kernel_rfl) (by kernel_rfl) (fun _ _ _ h => h) (Or.inl ⟨by rfl, ?_⟩) (by assumption) ?_
      rotate_left
      · intro w_ hSw; (try dsimp only at hSw); go_simp; first | done | with_reducible rfl
      try simp only [Act.put, sA, s0, sS]
      refine wpAnyH_take (i := 7) (oi := { dst := some 38, op := Op.extract (Operand.tmp 31) 1, type := 33, pos := "outright.go:79", after := #[{ on := 5, ground := Ground.data }, { on := 9, ground := Ground.gcOnly Departure.lateStores }], guard := none }) (v := ?_) rfl (by kernel_rfl) (by kernel_rfl) (by kernel_rfl) (fun _ _ _ h => h) (Or.inl ⟨by rfl, ?_⟩) (by assumption) ?_
      rotate_left
      · intro w_ hSw; (try dsimp only at hSw); go_simp; first | done | with_reducible rfl
      try simp only [Act.put, sA, s0, sS]
      refine wpAnyH_ready (rs := [9]) (by kernel_rfl) (by simp) ?_
      refine AllReadyH.cons (o := { dst := none, op := Op.store 27 (Operand.tmp 9) (Operand.tmp 37), type := 0, pos := "outright.go:79", after := #[{ on := 8, ground := Ground.data }, { on := 6, ground := Ground.data }, { on := 4, ground := Ground.chain }, { on := 0, ground := Ground.phase }, { on := 1, ground := Ground.phase }, { on := 2, ground := Ground.phase }, { on := 3, ground := Ground.phase }, { on := 4, ground := Ground.phase }, { on := 5, ground := Ground.phase }, { on := 6, ground := Ground.phase }, { on := 7, ground := Ground.textOnly Departure.lateStores }, { on := 8, ground := Ground.phase }], guard := none }) rfl (fun K hK => ?_) (AllReadyH.nil)
      go_simp
      skip
      refine hK.out _ _ ?_ (fun hHeld => ?_)
      · exact HKEEP.out _ (by repeat (first | exact HR.out | refine bl_drewN ?_ _ | refine bl_drew ?_ | refine bl_alloc ?_ _ | refine Below.setCell ?_ (by simp; try omega) _))
      clear hK K
      try simp only [Act.put, sA, s0, sS]
      refine wpAnyH_take (i := 10) (oi := { dst := some 10, op := Op.assign (Operand.tmp 38), type := 33, pos := "outright.go:79", after := #[{ on := 7, ground := Ground.data }, { on := 9, ground := Ground.chain }, { on := 0, ground := Ground.phase }, { on := 1, ground := Ground.phase }, { on := 2, ground := Ground.phase }, { on := 3, ground := Ground.phase }, { on := 4, ground := Ground.phase }, { on := 5, ground := Ground.phase }, { on := 6, ground := Ground.phase }, { on := 7, ground := Ground.phase }, { on := 8, ground := Ground.phase }, { on := 9, ground := Ground.phase }], guard := none }) (v := ?_) rfl (by kernel_rfl) (by kernel_rfl) (by kernel_rfl) (fun _ _ _ h => h) (Or.inl ⟨by rfl, ?_⟩) (by assumption) ?_
      rotate_left
      · intro w_ hSw; (try dsimp only at hSw); go_simp; first | done | with_reducible rfl
      try simp only [Act.put, sA, s0, sS]
      refine wpAnyH_done (by kernel_rfl) ?_ _
      clear e0 e1 e2 f0 f1 f2
      go_wp2_with fail
      go_meet
      exact ⟨_, A_, B_, c_, d_, rfl, rfl, Lib.hid (ob_put HO.out XG.out).2, Lib.hid (ob_put HO.out XG.out).1, Lib.hid (by repeat (first | exact HR.out | refine Below.setCell ?_ (by simp; try omega) _))⟩
  case rest =>
   obtain ⟨g21, A21, B21, c21, d21, rfl, rfl, BZ, BO, BC⟩ := hcut
   obtain ⟨m4, hw_⟩ : ∃ x : World, x = wc := ⟨_, rfl⟩
   subst hw_
   have F15 := Lib.hid (F14.out.below BC.out)
   clear F14
   have F16 := Lib.hid (HS.addB F15.out (g := g21) (t := 27) (cs := #[.string k21, .slice A21 (J21).length c21, .slice B21 (M21).length d21]) (BZ.out))
   clear F15
   have F17 := Lib.hid (F16.out.addO (BO.out))
   clear F16
   replace BB := Lib.hid (bl_then BB.out BC.out)
   clear BZ BO BC
   go_upto_region 5 with fail
   go_cut [81] from 39 (fun s1 wx => s1 = .bool false ∧ Hid (Below m4.heap.size m4 wx))
   case first =>
    as_aux_lemma =>
     have BW := Lib.hid (Below.refl m4.heap.size m4)
     by_cases h12 : x12 = 0
     · have H12 := Lib.hid h12
       obtain ⟨hX0, hsame, hchk, hkk, hl1, hl2⟩ := EYES.out h12
       have HSM := Lib.hid hsame
       have HCK := Lib.hid hchk
       have kk : (k12.toList == ka.toList) = true := by rw [hkk]; simp
       have kk2 : (k12.toList != ka.toList) = false := by rw [hkk]; simp
       have f1 : (x12 == 0) = true := by simpa using h12
       have f2 : (x12 != 0) = false := by simpa using h12
       have f3 : (x21 == 0) = true := by simpa using EIF.out.1 h12
       have f4 : decide (x12 = 0) = true := decide_eq_true h12
       have f5 : decide (x21 = 0) = true := decide_eq_true (EIF.out.1 h12)
       have lm : decide ((J12.length : Int) < if a.length < b.length then (b.length : Int) else (a.length : Int)) = false := decide_eq_false (by split <;> omega)
       have lm2 : ¬ ((J12.length : Int) < if a.length < b.length then (b.length : Int) else (a.length : Int)) := by split <;> omega
       clear hsame hchk hkk hl1 hl2 h12 hX0
       have p12_0 : m4.cell? ⟨g12, 0, none⟩ = some (.string k12) := (F17.out.blk 3 rfl).cell 0
       have p12_1 : m4.cell? ⟨g12, 1, none⟩ = some (.slice A12 (J12).length c12) := (F17.out.blk 3 rfl).cell 1
       have p12_2 : m4.cell? ⟨g12, 2, none⟩ = some (.slice B12 (M12).length d12) := (F17.out.blk 3 rfl).cell 2
       have p21_0 : m4.cell? ⟨g21, 0, none⟩ = some (.string k21) := (F17.out.blk 1 rfl).cell 0
       have p21_1 : m4.cell? ⟨g21, 1, none⟩ = some (.slice A21 (J21).length c21) := (F17.out.blk 1 rfl).cell 1
       have p21_2 : m4.cell? ⟨g21, 2, none⟩ = some (.slice B21 (M21).length d21) := (F17.out.blk 1 rfl).cell 2
       have p12_lt : g12 < m4.heap.size := (F17.out.blk 3 rfl).lt
       have p21_lt : g21 < m4.heap.size := (F17.out.blk 1 rfl).lt
       go_wp2_with fail
       clear p12_0 p12_1 p12_2 p12_lt p21_0 p21_1 p21_2 p21_lt
       refine (lsameq true ((F17.out.own 2 rfl).d.rd ja12).2.2 ((F17.out.own 2 rfl).s.rd jl12).2.2 ((F17.out.own 0 rfl).d.rd ja21).2.2 ((F17.out.own 0 rfl).s.rd jl21).2.2 rfl rfl rfl rfl HSM.out).mono ?_
       rintro e u6 ⟨rfl, hb⟩
       have F18 := Lib.hid (F17.out.below hb)
       clear F17
       replace BW := Lib.hid (bl_then BW.out hb)
       replace BB := Lib.hid (bl_then BB.out hb)
       clear hb
       have p12_0 : u6.cell? ⟨g12, 0, none⟩ = some (.string k12) := (F18.out.blk 3 rfl).cell 0
       have p12_1 : u6.cell? ⟨g12, 1, none⟩ = some (.slice A12 (J12).length c12) := (F18.out.blk 3 rfl).cell 1
       have p12_2 : u6.cell? ⟨g12, 2, none⟩ = some (.slice B12 (M12).length d12) := (F18.out.blk 3 rfl).cell 2
       have p12_lt : g12 < u6.heap.size := (F18.out.blk 3 rfl).lt
       go_wp2_with fail
       clear p12_0 p12_1 p12_2 p12_lt
       refine (checkq 0 ((F18.out.own 2 rfl).d.rd ja12).2.2 ((F18.out.own 2 rfl).s.rd jl12).2.2 rfl rfl R12.out HCK.out).mono ?_
       rintro e u7 ⟨rfl, hb⟩
       have F19 := Lib.hid (F18.out.below hb)
       clear F18
       replace BW := Lib.hid (bl_then BW.out hb)
       replace BB := Lib.hid (bl_then BB.out hb)
       clear hb
       have p12_0 : u7.cell? ⟨g12, 0, none⟩ = some (.string k12) := (F19.out.blk 3 rfl).cell 0
       have p12_1 : u7.cell? ⟨g12, 1, none⟩ = some (.slice A12 (J12).length c12) := (F19.out.blk 3 rfl).cell 1
       have p12_2 : u7.cell? ⟨g12, 2, none⟩ = some (.slice B12 (M12).length d12) := (F19.out.blk 3 rfl).cell 2
       have pa_0 : u7.cell? ⟨w.heap.size, 0, none⟩ = some (.string ka) := (F19.out.blk 12 rfl).cell 0
       have pa_1 : u7.cell? ⟨w.heap.size, 1, none⟩ = some (.slice A a.length c1) := (F19.out.blk 12 rfl).cell 1
       have pa_2 : u7.cell? ⟨w.heap.size, 2, none⟩ = some (.slice B l.length c2) := (F19.out.blk 12 rfl).cell 2
       have pb_0 : u7.cell? ⟨w.heap.size + 1, 0, none⟩ = some (.string kb) := (F19.out.blk 11 rfl).cell 0
       have pb_1 : u7.cell? ⟨w.heap.size + 1, 1, none⟩ = some (.slice C b.length c3) := (F19.out.blk 11 rfl).cell 1
       have pb_2 : u7.cell? ⟨w.heap.size + 1, 2, none⟩ = some (.slice D m.length c4) := (F19.out.blk 11 rfl).cell 2
       have p12_lt : g12 < u7.heap.size := (F19.out.blk 3 rfl).lt
       have pa_lt : w.heap.size < u7.heap.size := (F19.out.blk 12 rfl).lt
       have pb_lt : w.heap.size + 1 < u7.heap.size := (F19.out.blk 11 rfl).lt
       go_wp2_with fail
       all_goals
        go_meet
        exact ⟨rfl, Lib.hid (by repeat (first | exact BW.out | refine bl_drewN ?_ _ | refine bl_drew ?_ | refine bl_alloc ?_ _))⟩
     · have f1 : (x12 == 0) = false := by simpa using h12
       have f2 : (x12 != 0) = true := by simpa using h12
       have f3 : (x21 == 0) = false := by simpa using (fun h => h12 (EIF.out.2 h) : ¬ x21 = 0)
       have f4 : decide (x12 = 0) = false := decide_eq_false h12
       have f5 : decide (x21 = 0) = false := decide_eq_false (fun h => h12 (EIF.out.2 h))
       clear h12
       go_wp2_with fail
       all_goals
        go_meet
        exact ⟨rfl, Lib.hid (by repeat (first | exact BW.out | refine bl_drewN ?_ _ | refine bl_drew ?_ | refine bl_alloc ?_ _))⟩
   case rest =>
    obtain ⟨rfl, BC⟩ := hcut
    obtain ⟨m5, hw_⟩ : ∃ x : World, x = wc := ⟨_, rfl⟩
    subst hw_
    have F20 := Lib.hid (F17.out.below BC.out)
    clear F17
    replace BB := Lib.hid (bl_then BB.out BC.out)
    clear BC
    go_upto_region 7 with fail
    go_cut [11, 12] from 82 (fun s1 s2 wx => ∃ (g : Nat) (A_ B_ : Option Addr) (c_ d_ : Nat), s1 = .pointer (some ⟨g, 0, none⟩) ∧ s2 = .int .i64 xaa ∧ Hid (GR.Blk wx g 27 #[.string kaa, .slice A_ (Jaa).length c_, .slice B_ (Maa).length d_]) ∧ Hid (OwnS wx m5.heap.size (.slice A_ (Jaa).length c_) (.slice B_ (Maa).length d_) Jaa Maa) ∧ Hid (Below m5.heap.size m5 wx))
    case first =>
     as_aux_lemma =>
      have K0 : Hid (m5.cell? ⟨w.heap.size, 0, none⟩ = some (.string ka)) := Lib.hid ((F20.out.blk 12 rfl).cell 0)
      have K1 : Hid (m5.cell? ⟨w.heap.size, 1, none⟩ = some (.slice A a.length c1)) := Lib.hid ((F20.out.blk 12 rfl).cell 1)
      have K2 : Hid (m5.cell? ⟨w.heap.size, 2, none⟩ = some (.slice B l.length c2)) := Lib.hid ((F20.out.blk 12 rfl).cell 2)
      have pa_lt : w.heap.size < m5.heap.size := (F20.out.blk 12 rfl).lt
      have DD_1 := Lib.hid (F20.out.rd 9 rfl)
      have DL_1 := Lib.hid (F20.out.rd 8 rfl)
      have DD_3 := Lib.hid (F20.out.rd 9 rfl)
      have DL_3 := Lib.hid (F20.out.rd 8 rfl)
      have HR := Lib.hid (Below.refl m5.heap.size m5)
      have HKEEP : Hid (∀ w', Below m5.heap.size m5 w' → (w'.cell? ⟨w.heap.size, 0, none⟩ = some (.string ka) ∧ w'.cell? ⟨w.heap.size, 1, none⟩ = some (.slice A a.length c1) ∧ w'.cell? ⟨w.heap.size, 2, none⟩ = some (.slice B l.length c2))) := Lib.hid (fun w' hb => ⟨(Below.cell (p := ⟨w.heap.size, 0, none⟩) hb (World.block_lt_of_cell? m5 _ K0.out)).trans K0.out, (Below.cell (p := ⟨w.heap.size, 1, none⟩) hb (World.block_lt_of_cell? m5 _ K1.out)).trans K1.out, (Below.cell (p := ⟨w.heap.size, 2, none⟩) hb (World.block_lt_of_cell? m5 _ K2.out)).trans K2.out⟩)
      refine wp_region_held_drew (S := fun w' => w'.cell? ⟨w.heap.size, 0, none⟩ = some (.string ka) ∧ w'.cell? ⟨w.heap.size, 1, none⟩ = some (.slice A a.length c1) ∧ w'.cell? ⟨w.heap.size, 2, none⟩ = some (.slice B l.length c2)) (by kernel_rfl) ?_ (fun hHeld => ?_)
      · exact ⟨K0.out, K1.out, K2.out⟩
      refine wpAnyH_take (i := 0) (oi := { dst := some 83, op := Op.load 27 (Operand.tmp 3), type := 27, pos := "outright.go:83", after := #[], guard := none }) (v := ?_) rfl (by kernel_rfl) (by kernel_rfl) (by kernel_rfl) (fun _ _ _ h => h) (Or.inl ⟨by rfl, ?_⟩) (by assumption) ?_
      rotate_left
      · intro w_ hSw; (try dsimp only at hSw); go_simp; first | done | with_reducible rfl
      try simp only [Act.put, sA, s0, sS]
      refine wpAnyH_take (i := 2) (oi := { dst := some 85, op := Op.load 27 (Operand.tmp 3), type := 27, pos := "outright.go:83", after := #[], guard := none }) (v := ?_) rfl (by kernel_rfl) (by kernel_rfl) (by kernel_rfl) (fun _ _ _ h => h) (Or.inl ⟨by rfl, ?_⟩) (by assumption) ?_
      rotate_left
      · intro w_ hSw; (try dsimp only at hSw); go_simp; first | done | with_reducible rfl
      try simp only [Act.put, sA, s0, sS]
      refine wpAnyH_ready (rs := [1, 8]) (by kernel_rfl) (by simp) ?_
      refine AllReadyH.cons (o := { dst := some 84, op := Op.call { callee := Callee.value (Operand.func 10), args := #[Operand.tmp 83], argTypes := #[27] }, type := 27, pos := "outright.go:83", after := #[{ on := 0, ground := Ground.data }], guard := none }) rfl (fun K hK => ?_) (AllReadyH.cons (o := { dst := some 11, op := Op.alloc 27, type := 0, pos := "outright.go:83", after := #[], guard := none }) rfl (fun K hK => ?_) (AllReadyH.nil))
      · skip
        go_simp
        go_at_call 10
        refine (twinR_any ka A B c1 c2 a l _ (GR.Rd.below DD_1.out (by repeat (first | exact HR.out | refine bl_drewN ?_ _ | refine bl_drew ?_ | refine bl_alloc ?_ _))) (GR.Rd.below DL_1.out (by repeat (first | exact HR.out | refine bl_drewN ?_ _ | refine bl_drew ?_ | refine bl_alloc ?_ _))) sa sl).mono ?_
        rintro e q7_1 ⟨A_1, B_1, c_1, d_1, rfl, hra, hrl, hc1, _, hb2⟩
        have bx := bx_of (W := m5) hb2 (by repeat (first | exact HR.out | refine bl_drewN ?_ _ | refine bl_drew ?_ | refine bl_alloc ?_ _))
        have TD_1 := Lib.hid hra
        have TL_1 := Lib.hid hrl
        have TC_1 := hc1
        clear hra hrl
        have hs_1 : m5.heap.size ≤ q7_1.heap.size := (bl_then bx hb2).size
        replace HR := Lib.hid (bl_then bx hb2)
        clear hb2 bx
        refine hK.out _ _ ?_ (fun hHeld => ?_)
        · exact HKEEP.out _ (by repeat (first | exact HR.out | refine bl_drewN ?_ _ | refine bl_drew ?_ | refine bl_alloc ?_ _ | refine Below.setCell ?_ (by simp; try omega) _))
        clear hK K
        try simp only [Act.put, sA, s0, sS]
        refine wpAnyH_ready (rs := [3, 8]) (by kernel_rfl) (by simp) ?_
        refine AllReadyH.cons (o := { dst := some 86, op := Op.call { callee := Callee.value (Operand.func 10), args := #[Operand.tmp 85], argTypes := #[27] }, type := 27, pos := "outright.go:83", after := #[{ on := 2, ground := Ground.data }, { on := 1, ground := Ground.chain }], guard := none }) rfl (fun K hK => ?_) (AllReadyH.cons (o := { dst := some 11, op := Op.alloc 27, type := 0, pos := "outright.go:83", after := #[], guard := none }) rfl (fun K hK => ?_) (AllReadyH.nil))
        · skip
          go_simp
          go_at_call 10
          refine (twinR_any ka A B c1 c2 a l _ (GR.Rd.below DD_3.out (by repeat (first | exact HR.out | refine bl_drewN ?_ _ | refine bl_drew ?_ | refine bl_alloc ?_ _))) (GR.Rd.below DL_3.out (by repeat (first | exact HR.out | refine bl_drewN ?_ _ | refine bl_drew ?_ | refine bl_alloc ?_ _))) sa sl).mono ?_
          rintro e q7_3 ⟨A_3, B_3, c_3, d_3, rfl, hra, hrl, hc1, _, hb2⟩
          have bx := bx_of (W := m5) hb2 (by repeat (first | exact HR.out | refine bl_drewN ?_ _ | refine bl_drew ?_ | refine bl_alloc ?_ _))
          have br := bx_of (W := q7_1) hb2 (by repeat (first | exact Below.refl _ _ | refine bl_drewN ?_ _ | refine bl_drew ?_ | refine bl_alloc ?_ _))
          replace TD_1 := Lib.hid ((TD_1.out.below br).below hb2)
          replace TL_1 := Lib.hid ((TL_1.out.below br).below hb2)
          have TD_3 := Lib.hid hra
          have TL_3 := Lib.hid hrl
          have TC_3 := hc1
          clear hra hrl
          have hs_3 : m5.heap.size ≤ q7_3.heap.size := (bl_then bx hb2).size
          replace HR := Lib.hid (bl_then bx hb2)
          clear hb2 bx br
          refine hK.out _ _ ?_ (fun hHeld => ?_)
          · exact HKEEP.out _ (by repeat (first | exact HR.out | refine bl_drewN ?_ _ | refine bl_drew ?_ | refine bl_alloc ?_ _ | refine Below.setCell ?_ (by simp; try omega) _))
          clear hK K
          try simp only [Act.put, sA, s0, sS]
          refine wpAnyH_ready (rs := [4, 8]) (by kernel_rfl) (by simp) ?_
          refine AllReadyH.cons (o := { dst := some 87, op := Op.call { callee := Callee.value (Operand.func 12), args := #[Operand.tmp 84, Operand.tmp 86], argTypes := #[27, 27] }, type := 34, pos := "outright.go:83", after := #[{ on := 1, ground := Ground.data }, { on := 3, ground := Ground.data }, { on := 3, ground := Ground.chain }], guard := none }) rfl (fun K hK => ?_) (AllReadyH.cons (o := { dst := some 11, op := Op.alloc 27, type := 0, pos := "outright.go:83", after := #[], guard := none }) rfl (fun K hK => ?_) (AllReadyH.nil))
          · skip
            go_simp
            go_at_call 12
            refine (mrgO (Jaa) (Maa) xaa (GR.Rd.below (w := q7_3) TD_1.out (by repeat (first | exact Below.refl _ _ | refine bl_drewN ?_ _ | refine bl_drew ?_ | refine bl_alloc ?_ _))) (GR.Rd.below (w := q7_3) TL_1.out (by repeat (first | exact Below.refl _ _ | refine bl_drewN ?_ _ | refine bl_drew ?_ | refine bl_alloc ?_ _))) (GR.Rd.below (w := q7_3) TD_3.out (by repeat (first | exact Below.refl _ _ | refine bl_drewN ?_ _ | refine bl_drew ?_ | refine bl_alloc ?_ _))) (GR.Rd.below (w := q7_3) TL_3.out (by repeat (first | exact Below.refl _ _ | refine bl_drewN ?_ _ | refine bl_drew ?_ | refine bl_alloc ?_ _))) rfl rfl rfl rfl TC_1 TC_3 HR1.out HR1.out Eaak.out Eaaj.out Eaam.out Eaax.out).mono ?_
            rintro e q7_4 ⟨A_, B_, c_, d_, rfl, ho, hb2⟩
            have bx := bx_of (W := m5) hb2 (by repeat (first | exact HR.out | refine bl_drewN ?_ _ | refine bl_drew ?_ | refine bl_alloc ?_ _))
            have br := bx_of (W := q7_3) hb2 (by repeat (first | exact Below.refl _ _ | refine bl_drewN ?_ _ | refine bl_drew ?_ | refine bl_alloc ?_ _))
            replace TD_1 := Lib.hid ((TD_1.out.below br).below hb2)
            replace TL_1 := Lib.hid ((TL_1.out.below br).below hb2)
            replace TD_3 := Lib.hid ((TD_3.out.below br).below hb2)
            replace TL_3 := Lib.hid ((TL_3.out.below br).below hb2)
            have HO := Lib.hid (OwnS.base ho (B' := m5.heap.size) bx.size)
            clear ho
            have hs_4 : m5.heap.size ≤ q7_4.heap.size := (bl_then bx hb2).size
            replace HR := Lib.hid (bl_then bx hb2)
            clear hb2 bx br
            refine hK.out _ _ ?_ (fun hHeld => ?_)
            · exact HKEEP.out _ (by repeat (first | exact HR.out | refine bl_drewN ?_ _ | refine bl_drew ?_ | refine bl_alloc ?_ _ | refine Below.setCell ?_ (by simp; try omega) _))
            clear hK K
            try simp only [Act.put, sA, s0, sS]
            refine wpAnyH_take (i := 5) (oi := { dst := some 82, op := Op.move (Operand.tmp 87), type := 34, pos := "outright.go:83", after := #[{ on := 4, ground := Ground.data }], guard := none }) (v := ?_) rfl (by kernel_rfl) (by kernel_rfl) (by kernel_rfl) (fun _ _ _ h => h) (Or.inl ⟨by rfl, ?_⟩) (by assumption) ?_
            rotate_left
            · intro w_ hSw; (try dsimp only at hSw); go_simp; first | done | with_reducible rfl
            try simp only [Act.put, sA, s0, sS]
            refine wpAnyH_take (i := 6) (oi := { dst := some 88, op := Op.extract (Operand.tmp 82) 0, type := 27, pos := "outright.go:83", after := #[{ on := 5, ground := Ground.data }], guard := none }) (v := ?_) rfl (by kernel_rfl) (by kernel_rfl) (by kernel_rfl) (fun _ _ _ h => h) (Or.inl ⟨by rfl, ?_⟩) (by assumption) ?_
            rotate_left
            · intro w_ hSw; (try dsimp only at hSw); go_simp; first | done | with_reducible rfl
            try simp only [Act.put, sA, s0, sS]
            refine wpAnyH_take (i := 7) (oi := { dst := some 89, op := Op.extract (Operand.tmp 82) 1, type := 33, pos := "outright.go:83", after := #[{ on := 5, ground := Ground.data }, { on := 9, ground := Ground.gcOnly Departure.lateStores }], guard := none }) (v := ?_) rfl (by kernel_rfl) (by kernel_rfl) (by kernel_rfl) (fun _ _ _ h => h) (Or.inl ⟨by rfl, ?_⟩) (by assumption) ?_
            rotate_left
            · intro w_ hSw; (try dsimp only at hSw); go_simp; first | done | with_reducible rfl
            try simp only [Act.put, sA, s0, sS]
            refine wpAnyH_ready (rs := [8]) (by kernel_rfl) (by simp) ?_
            refine AllReadyH.cons (o := { dst := some 11, op := Op.alloc 27, type := 0, pos := "outright.go:83", after := #[], guard := none }) rfl (fun K hK => ?_) (AllReadyH.nil)
            go_simp
            skip
            refine hK.out _ _ ?_ (fun hHeld => ?_)
            · exact HKEEP.out _ (by repeat (first | exact HR.out | refine bl_drewN ?_ _ | refine bl_drew ?_ | refine bl_alloc ?_ _ | refine Below.setCell ?_ (by simp; try omega) _))
            clear hK K
            try simp only [Act.put, sA, s0, sS]
            refine wpAnyH_ready (rs := [9]) (by kernel_rfl) (by simp) ?_
            refine AllReadyH.cons (o := { dst := none, op := Op.store 27 (Operand.tmp 11) (Operand.tmp 88), type := 0, pos := "outright.go:83", after := #[{ on := 8, ground := Ground.data }, { on := 6, ground := Ground.data }, { on := 4, ground := Ground.chain }, { on := 0, ground := Ground.phase }, { on := 1, ground := Ground.phase }, { on := 2, ground := Ground.phase }, { on := 3, ground := Ground.phase }, { on := 4, ground := Ground.phase }, { on := 5, ground := Ground.phase }, { on := 6, ground := Ground.phase }, { on := 7, ground := Ground.textOnly Departure.lateStores }, { on := 8, ground := Ground.phase }], guard := none }) rfl (fun K hK => ?_) (AllReadyH.nil)
            go_simp
            skip
            refine hK.out _ _ ?_ (fun hHeld => ?_)
            · exact HKEEP.out _ (by repeat (first | exact HR.out | refine bl_drewN ?_ _ | refine bl_drew ?_ | refine bl_alloc ?_ _ | refine Below.setCell ?_ (by simp; try omega) _))
            clear hK K
            try simp only [Act.put, sA, s0, sS]
            refine wpAnyH_take (i := 10) (oi := { dst := some 12, op := Op.assign (Operand.tmp 89), type := 33, pos := "outright.go:83", after := #[{ on := 7, ground := Ground.data }, { on := 9, ground := Ground.chain }, { on := 0, ground := Ground.phase }, { on := 1, ground := Ground.phase }, { on := 2, ground := Ground.phase }, { on := 3, ground := Ground.phase }, { on := 4, ground := Ground.phase }, { on := 5, ground := Ground.phase }, { on := 6, ground := Ground.phase }, { on := 7, ground := Ground.phase }, { on := 8, ground := Ground.phase }, { on := 9, ground := Ground.phase }], guard := none }) (v := ?_) rfl (by kernel_rfl) (by kernel_rfl) (by kernel_rfl) (fun _ _ _ h => h) (Or.inl ⟨by rfl, ?_⟩) (by assumption) ?_
            rotate_left
            · intro w_ hSw; (try dsimp only at hSw); go_simp; first | done | with_reducible rfl
            try simp only [Act.put, sA, s0, sS]
            refine wpAnyH_done (by kernel_rfl) ?_ _
            go_wp2_with fail
            go_meet
            exact ⟨_, A_, B_, c_, d_, rfl, rfl, Lib.hid (GR.Blk.new _ _ _), Lib.hid (OwnS.below HO.out (by repeat (first | exact Below.refl _ _ | refine bl_drewN ?_ _ | refine bl_drew ?_ | refine bl_alloc ?_ _))), Lib.hid (by repeat (first | exact HR.out | refine bl_drewN ?_ _ | refine bl_drew ?_ | refine bl_alloc ?_ _))⟩
          · skip
            go_simp
            skip
            refine hK.out _ _ ?_ (fun hHeld => ?_)
            · exact HKEEP.out _ (by repeat (first | exact HR.out | refine bl_drewN ?_ _ | refine bl_drew ?_ | refine bl_alloc ?_ _ | refine Below.setCell ?_ (by simp; try omega) _))
            clear hK K
            try simp only [Act.put, sA, s0, sS]
            refine wpAnyH_ready (rs := [4]) (by kernel_rfl) (by simp) ?_
            refine AllReadyH.cons (o := { dst := some 87, op := Op.call { callee := Callee.value (Operand.func 12), args := #[Operand.tmp 84, Operand.tmp 86], argTypes := #[27, 27] }, type := 34, pos := "outright.go:83", after := #[{ on := 1, ground := Ground.data }, { on := 3, ground := Ground.data }, { on := 3, ground := Ground.chain }], guard := none }) rfl (fun K hK => ?_) (AllReadyH.nil)
            go_simp
            go_at_call 12
            refine (mrgO (Jaa) (Maa) xaa (GR.Rd.below (w := q7_3) TD_1.out (by repeat (first | exact Below.refl _ _ | refine bl_drewN ?_ _ | refine bl_drew ?_ | refine bl_alloc ?_ _))) (GR.Rd.below (w := q7_3) TL_1.out (by repeat (first | exact Below.refl _ _ | refine bl_drewN ?_ _ | refine bl_drew ?_ | refine bl_alloc ?_ _))) (GR.Rd.below (w := q7_3) TD_3.out (by repeat (first | exact Below.refl _ _ | refine bl_drewN ?_ _ | refine bl_drew ?_ | refine bl_alloc ?_ _))) (GR.Rd.below (w := q7_3) TL_3.out (by repeat (first | exact Below.refl _ _ | refine bl_drewN ?_ _ | refine bl_drew ?_ | refine bl_alloc ?_ _))) rfl rfl rfl rfl TC_1 TC_3 HR1.out HR1.out Eaak.out Eaaj.out Eaam.out Eaax.out).mono ?_
            rintro e q7_4 ⟨A_, B_, c_, d_, rfl, ho, hb2⟩
            have bx := bx_of (W := m5) hb2 (by repeat (first | exact HR.out | refine bl_drewN ?_ _ | refine bl_drew ?_ | refine bl_alloc ?_ _))
            have br := bx_of (W := q7_3) hb2 (by repeat (first | exact Below.refl _ _ | refine bl_drewN ?_ _ | refine bl_drew ?_ | refine bl_alloc ?_ _))
            replace TD_1 := Lib.hid ((TD_1.out.below br).below hb2)
            replace TL_1 := Lib.hid ((TL_1.out.below br).below hb2)
            replace TD_3 := Lib.hid ((TD_3.out.below br).below hb2)
            replace TL_3 := Lib.hid ((TL_3.out.below br).below hb2)
            have XG : Hid (GR.Blk q7_4 q7_3.heap.size 27 #[.string ⟨#[]⟩, .slice none 0 0, .slice none 0 0]) := Lib.hid (by
             refine GR.Blk.below ?_ hb2 ?_
             · exact new_at _ _ _ (by simp)
             · simp)
            have HO := Lib.hid (OwnS.base ho (B' := m5.heap.size) bx.size)
            clear ho
            have e0 := XG.out.cell 0
            have e1 := XG.out.cell 1
            have e2 := XG.out.cell 2
            have f0 := XG.out.frozen 0
            have f1 := XG.out.frozen 1
            have f2 := XG.out.frozen 2
            have hs_4 : m5.heap.size ≤ q7_4.heap.size := (bl_then bx hb2).size
            replace HR := Lib.hid (bl_then bx hb2)
            clear hb2 bx br
            refine hK.out _ _ ?_ (fun hHeld => ?_)
            · exact HKEEP.out _ (by repeat (first | exact HR.out | refine bl_drewN ?_ _ | refine bl_drew ?_ | refine bl_alloc ?_ _ | refine Below.setCell ?_ (by simp; try omega) _))
            clear hK K
            try simp only [Act.put, sA, s0, sS]
            refine wpAnyH_take (i := 5) (oi := { dst := some 82, op := Op.move (Operand.tmp 87), type := 34, pos := "outright.go:83", after := #[{ on := 4, ground := Ground.data }], guard := none }) (v := ?_) rfl (by kernel_rfl) (by kernel_rfl) (by kernel_rfl) (fun _ _ _ h => h) (Or.inl ⟨by rfl, ?_⟩) (by assumption) ?_
            rotate_left
            · intro w_ hSw; (try dsimp only at hSw); go_simp; first | done | with_reducible rfl
            try simp only [Act.put, sA, s0, sS]
            refine wpAnyH_take (i := 6) (oi := { dst := some 88, op := Op.extract (Operand.tmp 82) 0, type := 27, pos := "outright.go:83", after := #[{ on := 5, ground := Ground.data }], guard := none }) (v := ?_) rfl (by kernel_rfl) (by kernel_rfl) (by kernel_rfl) (fun _ _ _ h => h) (Or.inl ⟨by rfl, ?_⟩) (by assumption) ?_
            rotate_left
            · intro w_ hSw; (try dsimp only at hSw); go_simp; first | done | with_reducible rfl
            try simp only [Act.put, sA, s0, sS]
            refine wpAnyH_take (i := 7) (oi := { dst := some 89, op := Op.extract (Operand.tmp 82) 1, type := 33, pos := "outright.go:83", after := #[{ on := 5, ground := Ground.data }, { on := 9, ground := Ground.gcOnly Departure.lateStores }], guard := none }) (v := ?_) rfl (by kernel_rfl) (by kernel_rfl) (by kernel_rfl) (fun _ _ _ h => h) (Or.inl ⟨by rfl, ?_⟩) (by assumption) ?_
            rotate_left
            · intro w_ hSw; (try dsimp only at hSw); go_simp; first | done | with_reducible rfl
            try simp only [Act.put, sA, s0, sS]
            refine wpAnyH_ready (rs := [9]) (by kernel_rfl) (by simp) ?_
            refine AllReadyH.cons (o := { dst := none, op := Op.store 27 (Operand.tmp 11) (Operand.tmp 88), type := 0, pos := "outright.go:83", after := #[{ on := 8, ground := Ground.data }, { on := 6, ground := Ground.data }, { on := 4, ground := Ground.chain }, { on := 0, ground := Ground.phase }, { on := 1, ground := Ground.phase }, { on := 2, ground := Ground.phase }, { on := 3, ground := Ground.phase }, { on := 4, ground := Ground.phase }, { on := 5, ground := Ground.phase }, { on := 6, ground := Ground.phase }, { on := 7, ground := Ground.textOnly Departure.lateStores }, { on := 8, ground := Ground.phase }], guard := none }) rfl (fun K hK => ?_) (AllReadyH.nil)
            go_simp
            skip
            refine hK.out _ _ ?_ (fun hHeld => ?_)
            · exact HKEEP.out _ (by repeat (first | exact HR.out | refine bl_drewN ?_ _ | refine bl_drew ?_ | refine bl_alloc ?_ _ | refine Below.setCell ?_ (by simp; try omega) _))
            clear hK K
            try simp only [Act.put, sA, s0, sS]
            refine wpAnyH_take (i := 10) (oi := { dst := some 12, op := Op.assign (Operand.tmp 89), type := 33, pos := "outright.go:83", after := #[{ on := 7, ground := Ground.data }, { on := 9, ground := Ground.chain }, { on := 0, ground := Ground.phase }, { on := 1, ground := Ground.phase }, { on := 2, ground := Ground.phase }, { on := 3, ground := Ground.phase }, { on := 4, ground := Ground.phase }, { on := 5, ground := Ground.phase }, { on := 6, ground := Ground.phase }, { on := 7, ground := Ground.phase }, { on := 8, ground := Ground.phase }, { on := 9, ground := Ground.phase }], guard := none }) (v := ?_) rfl (by kernel_rfl) (by kernel_rfl) (by kernel_rfl) (fun _ _ _ h => h) (Or.inl ⟨by rfl, ?_⟩) (by assumption) ?_
            rotate_left
            · intro w_ hSw; (try dsimp only at hSw); go_simp; first | done | with_reducible rfl
            try simp only [Act.put, sA, s0, sS]
            refine wpAnyH_done (by kernel_rfl) ?_ _
            clear e0 e1 e2 f0 f1 f2
            go_wp2_with fail
            go_meet
            exact ⟨_, A_, B_, c_, d_, rfl, rfl, Lib.hid (ob_put HO.out XG.out).2, Lib.hid (ob_put HO.out XG.out).1, Lib.hid (by repeat (first | exact HR.out | refine Below.setCell ?_ (by simp; try omega) _))⟩
        · skip
          go_simp
          skip
          refine hK.out _ _ ?_ (fun hHeld => ?_)
          · exact HKEEP.out _ (by repeat (first | exact HR.out | refine bl_drewN ?_ _ | refine bl_drew ?_ | refine bl_alloc ?_ _ | refine Below.setCell ?_ (by simp; try omega) _))
          clear hK K
          try simp only [Act.put, sA, s0, sS]
          refine wpAnyH_ready (rs := [3]) (by kernel_rfl) (by simp) ?_
          refine AllReadyH.cons (o := { dst := some 86, op := Op.call { callee := Callee.value (Operand.func 10), args := #[Operand.tmp 85], argTypes := #[27] }, type := 27, pos := "outright.go:83", after := #[{ on := 2, ground := Ground.data }, { on := 1, ground := Ground.chain }], guard := none }) rfl (fun K hK => ?_) (AllReadyH.nil)
          go_simp
          go_at_call 10
          refine (twinR_any ka A B c1 c2 a l _ (GR.Rd.below DD_3.out (by repeat (first | exact HR.out | refine bl_drewN ?_ _ | refine bl_drew ?_ | refine bl_alloc ?_ _))) (GR.Rd.below DL_3.out (by repeat (first | exact HR.out | refine bl_drewN ?_ _ | refine bl_drew ?_ | refine bl_alloc ?_ _))) sa sl).mono ?_
          rintro e q7_3 ⟨A_3, B_3, c_3, d_3, rfl, hra, hrl, hc1, _, hb2⟩
          have bx := bx_of (W := m5) hb2 (by repeat (first | exact HR.out | refine bl_drewN ?_ _ | refine bl_drew ?_ | refine bl_alloc ?_ _))
          have br := bx_of (W := q7_1) hb2 (by repeat (first | exact Below.refl _ _ | refine bl_drewN ?_ _ | refine bl_drew ?_ | refine bl_alloc ?_ _))
          replace TD_1 := Lib.hid ((TD_1.out.below br).below hb2)
          replace TL_1 := Lib.hid ((TL_1.out.below br).below hb2)
          have TD_3 := Lib.hid hra
          have TL_3 := Lib.hid hrl
          have TC_3 := hc1
          clear hra hrl
          have XG : Hid (GR.Blk q7_3 q7_1.heap.size 27 #[.string ⟨#[]⟩, .slice none 0 0, .slice none 0 0]) := Lib.hid (by
           refine GR.Blk.below ?_ hb2 ?_
           · exact new_at _ _ _ (by simp)
           · simp)
          have hs_3 : m5.heap.size ≤ q7_3.heap.size := (bl_then bx hb2).size
          replace HR := Lib.hid (bl_then bx hb2)
          clear hb2 bx br
          refine hK.out _ _ ?_ (fun hHeld => ?_)
          · exact HKEEP.out _ (by repeat (first | exact HR.out | refine bl_drewN ?_ _ | refine bl_drew ?_ | refine bl_alloc ?_ _ | refine Below.setCell ?_ (by simp; try omega) _))
          clear hK K
          try simp only [Act.put, sA, s0, sS]
          refine wpAnyH_ready (rs := [4]) (by kernel_rfl) (by simp) ?_
          refine AllReadyH.cons (o := { dst := some 87, op := Op.call { callee := Callee.value (Operand.func 12), args := #[Operand.tmp 84, Operand.tmp 86], argTypes := #[27, 27] }, type := 34, pos := "outright.go:83", after := #[{ on := 1, ground := Ground.data }, { on := 3, ground := Ground.data }, { on := 3, ground := Ground.chain }], guard := none }) rfl (fun K hK => ?_) (AllReadyH.nil)
          go_simp
          go_at_call 12
          refine (mrgO (Jaa) (Maa) xaa (GR.Rd.below (w := q7_3) TD_1.out (by repeat (first | exact Below.refl _ _ | refine bl_drewN ?_ _ | refine bl_drew ?_ | refine bl_alloc ?_ _))) (GR.Rd.below (w := q7_3) TL_1.out (by repeat (first | exact Below.refl _ _ | refine bl_drewN ?_ _ | refine bl_drew ?_ | refine bl_alloc ?_ _))) (GR.Rd.below (w := q7_3) TD_3.out (by repeat (first | exact Below.refl _ _ | refine bl_drewN ?_ _ | refine bl_drew ?_ | refine bl_alloc ?_ _))) (GR.Rd.below (w := q7_3) TL_3.out (by repeat (first | exact Below.refl _ _ | refine bl_drewN ?_ _ | refine bl_drew ?_ | refine bl_alloc ?_ _))) rfl rfl rfl rfl TC_1 TC_3 HR1.out HR1.out Eaak.out Eaaj.out Eaam.out Eaax.out).mono ?_
          rintro e q7_4 ⟨A_, B_, c_, d_, rfl, ho, hb2⟩
          have bx := bx_of (W := m5) hb2 (by repeat (first | exact HR.out | refine bl_drewN ?_ _ | refine bl_drew ?_ | refine bl_alloc ?_ _))
          have br := bx_of (W := q7_3) hb2 (by repeat (first | exact Below.refl _ _ | refine bl_drewN ?_ _ | refine bl_drew ?_ | refine bl_alloc ?_ _))
          replace TD_1 := Lib.hid ((TD_1.out.below br).below hb2)
          replace TL_1 := Lib.hid ((TL_1.out.below br).below hb2)
          replace TD_3 := Lib.hid ((TD_3.out.below br).below hb2)
          replace TL_3 := Lib.hid ((TL_3.out.below br).below hb2)
          replace XG := Lib.hid (blk_up XG.out br hb2)
          have HO := Lib.hid (OwnS.base ho (B' := m5.heap.size) bx.size)
          clear ho
          have e0 := XG.out.cell 0
          have e1 := XG.out.cell 1
          have e2 := XG.out.cell 2
          have f0 := XG.out.frozen 0
          have f1 := XG.out.frozen 1
          have f2 := XG.out.frozen 2
          have hs_4 : m5.heap.size ≤ q7_4.heap.size := (bl_then bx hb2).size
          replace HR := Lib.hid (bl_then bx hb2)
          clear hb2 bx br
          refine hK.out _ _ ?_ (fun hHeld => ?_)
          · exact HKEEP.out _ (by repeat (first | exact HR.out | refine bl_drewN ?_ _ | refine bl_drew ?_ | refine bl_alloc ?_ _ | refine Below.setCell ?_ (by simp; try omega) _))
          clear hK K
          try simp only [Act.put, sA, s0, sS]
          refine wpAnyH_take (i := 5) (oi := { dst := some 82, op := Op.move (Operand.tmp 87), type := 34, pos := "outright.go:83", after := #[{ on := 4, ground := Ground.data }], guard := none }) (v := ?_) rfl (by kernel_rfl) (by kernel_rfl) (by kernel_rfl) (fun _ _ _ h => h) (Or.inl ⟨by rfl, ?_⟩) (by assumption) ?_
          rotate_left
          · intro w_ hSw; (try dsimp only at hSw); go_simp; first | done | with_reducible rfl
          try simp only [Act.put, sA, s0, sS]
          refine wpAnyH_take (i := 6) (oi := { dst := some 88, op := Op.extract (Operand.tmp 82) 0, type := 27, pos := "outright.go:83", after := #[{ on := 5, ground := Ground.data }], guard := none }) (v := ?_) rfl (by kernel_rfl) (by kernel_rfl) (by kernel_rfl) (fun _ _ _ h => h) (Or.inl ⟨by rfl, ?_⟩) (by assumption) ?_
          rotate_left
          · intro w_ hSw; (try dsimp only at hSw); go_simp; first | done | with_reducible rfl
          try simp only [Act.put, sA, s0, sS]
          refine wpAnyH_take (i := 7) (oi := { dst := some 89, op := Op.extract (Operand.tmp 82) 1, type := 33, pos := "outright.go:83", after := #[{ on := 5, ground := Ground.data }, { on := 9, ground := Ground.gcOnly Departure.lateStores }], guard := none }) (v := ?_) rfl (by kernel_rfl) (by kernel_rfl) (by kernel_rfl) (fun _ _ _ h => h) (Or.inl ⟨by rfl, ?_⟩) (by assumption) ?_
          rotate_left
          · intro w_ hSw; (try dsimp only at hSw); go_simp; first | done | with_reducible rfl
          try simp only [Act.put, sA, s0, sS]
          refine wpAnyH_ready (rs := [9]) (by kernel_rfl) (by simp) ?_
          refine AllReadyH.cons (o := { dst := none, op := Op.store 27 (Operand.tmp 11) (Operand.tmp 88), type := 0, pos := "outright.go:83", after := #[{ on := 8, ground := Ground.data }, { on := 6, ground := Ground.data }, { on := 4, ground := Ground.chain }, { on := 0, ground := Ground.phase }, { on := 1, ground := Ground.phase }, { on := 2, ground := Ground.phase }, { on := 3, ground := Ground.phase }, { on := 4, ground := Ground.phase }, { on := 5, ground := Ground.phase }, { on := 6, ground := Ground.phase }, { on := 7, ground := Ground.textOnly Departure.lateStores }, { on := 8, ground := Ground.phase }], guard := none }) rfl (fun K hK => ?_) (AllReadyH.nil)
          go_simp
          skip
          refine hK.out _ _ ?_ (fun hHeld => ?_)
          · exact HKEEP.out _ (by repeat (first | exact HR.out | refine bl_drewN ?_ _ | refine bl_drew ?_ | refine bl_alloc ?_ _ | refine Below.setCell ?_ (by simp; try omega) _))
          clear hK K
          try simp only [Act.put, sA, s0, sS]
          refine wpAnyH_take (i := 10) (oi := { dst := some 12, op := Op.assign (Operand.tmp 89), type := 33, pos := "outright.go:83", after := #[{ on := 7, ground := Ground.data }, { on := 9, ground := Ground.chain }, { on := 0, ground := Ground.phase }, { on := 1, ground := Ground.phase }, { on := 2, ground := Ground.phase }, { on := 3, ground := Ground.phase }, { on := 4, ground := Ground.phase }, { on := 5, ground := Ground.phase }, { on := 6, ground := Ground.phase }, { on := 7, ground := Ground.phase }, { on := 8, ground := Ground.phase }, { on := 9, ground := Ground.phase }], guard := none }) (v := ?_) rfl (by kernel_rfl) (by kernel_rfl) (by kernel_rfl) (fun _ _ _ h => h) (Or.inl ⟨by rfl, ?_⟩) (by assumption) ?_
          rotate_left
          · intro w_ hSw; (try dsimp only at hSw); go_simp; first | done | with_reducible rfl
          try simp only [Act.put, sA, s0, sS]
          refine wpAnyH_done (by kernel_rfl) ?_ _
          clear e0 e1 e2 f0 f1 f2
          go_wp2_with fail
          go_meet
          exact ⟨_, A_, B_, c_, d_, rfl, rfl, Lib.hid (ob_put HO.out XG.out).2, Lib.hid (ob_put HO.out XG.out).1, Lib.hid (by repeat (first | exact HR.out | refine Below.setCell ?_ (by simp; try omega) _))⟩
      · skip
        go_simp
        skip
        refine hK.out _ _ ?_ (fun hHeld => ?_)
        · exact HKEEP.out _ (by repeat (first | exact HR.out | refine bl_drewN ?_ _ | refine bl_drew ?_ | refine bl_alloc ?_ _ | refine Below.setCell ?_ (by simp; try omega) _))
        clear hK K
        try simp only [Act.put, sA, s0, sS]
        refine wpAnyH_ready (rs := [1]) (by kernel_rfl) (by simp) ?_
        refine AllReadyH.cons (o := { dst := some 84, op := Op.call { callee := Callee.value (Operand.func 10), args := #[Operand.tmp 83], argTypes := #[27] }, type := 27, pos := "outright.go:83", after := #[{ on := 0, ground := Ground.data }], guard := none }) rfl (fun K hK => ?_) (AllReadyH.nil)
        go_simp
        go_at_call 10
        refine (twinR_any ka A B c1 c2 a l _ (GR.Rd.below DD_1.out (by repeat (first | exact HR.out | refine bl_drewN ?_ _ | refine bl_drew ?_ | refine bl_alloc ?_ _))) (GR.Rd.below DL_1.out (by repeat (first | exact HR.out | refine bl_drewN ?_ _ | refine bl_drew ?_ | refine bl_alloc ?_ _))) sa sl).mono ?_
        rintro e q7_1 ⟨A_1, B_1, c_1, d_1, rfl, hra, hrl, hc1, _, hb2⟩
        have bx := bx_of (W := m5) hb2 (by repeat (first | exact HR.out | refine bl_drewN ?_ _ | refine bl_drew ?_ | refine bl_alloc ?_ _))
        have TD_1 := Lib.hid hra
        have TL_1 := Lib.hid hrl
        have TC_1 := hc1
        clear hra hrl
        have XG : Hid (GR.Blk q7_1 m5.heap.size 27 #[.string ⟨#[]⟩, .slice none 0 0, .slice none 0 0]) := Lib.hid (by
         refine GR.Blk.below ?_ hb2 ?_
         · exact new_at _ _ _ (by simp)
         · simp)
        have hs_1 : m5.heap.size ≤ q7_1.heap.size := (bl_then bx hb2).size
        replace HR := Lib.hid (bl_then bx hb2)
        clear hb2 bx
        refine hK.out _ _ ?_ (fun hHeld => ?_)
        · exact HKEEP.out _ (by repeat (first | exact HR.out | refine bl_drewN ?_ _ | refine bl_drew ?_ | refine bl_alloc ?_ _ | refine Below.setCell ?_ (by simp; try omega) _))
        clear hK K
        try simp only [Act.put, sA, s0, sS]
        refine wpAnyH_ready (rs := [3]) (by kernel_rfl) (by simp) ?_
        refine AllReadyH.cons (o := { dst := some 86, op := Op.call { callee := Callee.value (Operand.func 10), args := #[Operand.tmp 85], argTypes := #[27] }, type := 27, pos := "outright.go:83", after := #[{ on := 2, ground := Ground.data }, { on := 1, ground := Ground.chain }], guard := none }) rfl (fun K hK => ?_) (AllReadyH.nil)
        go_simp
        go_at_call 10
        refine (twinR_any ka A B c1 c2 a l _ (GR.Rd.below DD_3.out (by repeat (first | exact HR.out | refine bl_drewN ?_ _ | refine bl_drew ?_ | refine bl_alloc ?_ _))) (GR.Rd.below DL_3.out (by repeat (first | exact HR.out | refine bl_drewN ?_ _ | refine bl_drew ?_ | refine bl_alloc ?_ _))) sa sl).mono ?_
        rintro e q7_3 ⟨A_3, B_3, c_3, d_3, rfl, hra, hrl, hc1, _, hb2⟩
        have bx := bx_of (W := m5) hb2 (by repeat (first | exact HR.out | refine bl_drewN ?_ _ | refine bl_drew ?_ | refine bl_alloc ?_ _))
        have br := bx_of (W := q7_1) hb2 (by repeat (first | exact Below.refl _ _ | refine bl_drewN ?_ _ | refine bl_drew ?_ | refine bl_alloc ?_ _))
        replace TD_1 := Lib.hid ((TD_1.out.below br).below hb2)
        replace TL_1 := Lib.hid ((TL_1.out.below br).below hb2)
        have TD_3 := Lib.hid hra
        have TL_3 := Lib.hid hrl
        have TC_3 := hc1
        clear hra hrl
        replace XG := Lib.hid (blk_up XG.out br hb2)
        have hs_3 : m5.heap.size ≤ q7_3.heap.size := (bl_then bx hb2).size
        replace HR := Lib.hid (bl_then bx hb2)
        clear hb2 bx br
        refine hK.out _ _ ?_ (fun hHeld => ?_)
        · exact HKEEP.out _ (by repeat (first | exact HR.out | refine bl_drewN ?_ _ | refine bl_drew ?_ | refine bl_alloc ?_ _ | refine Below.setCell ?_ (by simp; try omega) _))
        clear hK K
        try simp only [Act.put, sA, s0, sS]
        refine wpAnyH_ready (rs := [4]) (by kernel_rfl) (by simp) ?_
        refine AllReadyH.cons (o := { dst := some 87, op := Op.call { callee := Callee.value (Operand.func 12), args := #[Operand.tmp 84, Operand.tmp 86], argTypes := #[27, 27] }, type := 34, pos := "outright.go:83", after := #[{ on := 1, ground := Ground.data }, { on := 3, ground := Ground.data }, { on := 3, ground := Ground.chain }], guard := none }) rfl (fun K hK => ?_) (AllReadyH.nil)
        go_simp
        go_at_call 12
        refine (mrgO (Jaa) (Maa) xaa (GR.Rd.below (w := q7_3) TD_1.out (by repeat (first | exact Below.refl _ _ | refine bl_drewN ?_ _ | refine bl_drew ?_ | refine bl_alloc ?_ _))) (GR.Rd.below (w := q7_3) TL_1.out (by repeat (first | exact Below.refl _ _ | refine bl_drewN ?_ _ | refine bl_drew ?_ | refine bl_alloc ?_ _))) (GR.Rd.below (w := q7_3) TD_3.out (by repeat (first | exact Below.refl _ _ | refine bl_drewN ?_ _ | refine bl_drew ?_ | refine bl_alloc ?_ _))) (GR.Rd.below (w := q7_3) TL_3.out (by repeat (first | exact Below.refl _ _ | refine bl_drewN ?_ _ | refine bl_drew ?_ | refine bl_alloc ?_ _))) rfl rfl rfl rfl TC_1 TC_3 HR1.out HR1.out Eaak.out Eaaj.out Eaam.out Eaax.out).mono ?_
        rintro e q7_4 ⟨A_, B_, c_, d_, rfl, ho, hb2⟩
        have bx := bx_of (W := m5) hb2 (by repeat (first | exact HR.out | refine bl_drewN ?_ _ | refine bl_drew ?_ | refine bl_alloc ?_ _))
        have br := bx_of (W := q7_3) hb2 (by repeat (first | exact Below.refl _ _ | refine bl_drewN ?_ _ | refine bl_drew ?_ | refine bl_alloc ?_ _))
        replace TD_1 := Lib.hid ((TD_1.out.below br).below hb2)
        replace TL_1 := Lib.hid ((TL_1.out.below br).below hb2)
        replace TD_3 := Lib.hid ((TD_3.out.below br).below hb2)
        replace TL_3 := Lib.hid ((TL_3.out.below br).below hb2)
        replace XG := Lib.hid (blk_up XG.out br hb2)
        have HO := Lib.hid (OwnS.base ho (B' := m5.heap.size) bx.size)
        clear ho
        have e0 := XG.out.cell 0
        have e1 := XG.out.cell 1
        have e2 := XG.out.cell 2
        have f0 := XG.out.frozen 0
        have f1 := XG.out.frozen 1
        have f2 := XG.out.frozen 2
        have hs_4 : m5.heap.size ≤ q7_4.heap.size := (bl_then bx hb2).size
        replace HR := Lib.hid (bl_then bx hb2)
        clear hb2 bx br
        refine hK.out _ _ ?_ (fun hHeld => ?_)
        · exact HKEEP.out _ (by repeat (first | exact HR.out | refine bl_drewN ?_ _ | refine bl_drew ?_ | refine bl_alloc ?_ _ | refine Below.setCell ?_ (by simp; try omega) _))
        clear hK K
        try simp only [Act.put, sA, s0, sS]
        refine wpAnyH_take (i := 5) (oi := { dst := some 82, op := Op.move (Operand.tmp 87), type := 34, pos := "outright.go:83", after := #[{ on := 4, ground := Ground.data }], guard := none }) (v := ?_) rfl (by kernel_rfl) (by kernel_rfl) (by kernel_rfl) (fun _ _ _ h => h) (Or.inl ⟨by rfl, ?_⟩) (by assumption) ?_
        rotate_left
        · intro w_ hSw; (try dsimp only at hSw); go_simp; first | done | with_reducible rfl
        try simp only [Act.put, sA, s0, sS]
        refine wpAnyH_take (i := 6) (oi := { dst := some 88, op := Op.extract (Operand.tmp 82) 0, type := 27, pos := "outright.go:83", after := #[{ on := 5, ground := Ground.data }], guard := none }) (v := ?_) rfl (by kernel_rfl) (by kernel_rfl) (by kernel_rfl) (fun _ _ _ h => h) (Or.inl ⟨by rfl, ?_⟩) (by assumption) ?_
        rotate_left
        · intro w_ hSw; (try dsimp only at hSw); go_simp; first | done | with_reducible rfl
        try simp only [Act.put, sA, s0, sS]
        refine wpAnyH_take (i := 7) (oi := { dst := some 89, op := Op.extract (Operand.tmp 82) 1, type := 33, pos := "outright.go:83", after := #[{ on := 5, ground := Ground.data }, { on := 9, ground := Ground.gcOnly Departure.lateStores }], guard := none }) (v := ?_) rfl (by kernel_rfl) (by kernel_rfl) (by kernel_rfl) (fun _ _ _ h => h) (Or.inl ⟨by rfl, ?_⟩) (by assumption) ?_
        rotate_left
        · intro w_ hSw; (try dsimp only at hSw); go_simp; first | done | with_reducible rfl
        try simp only [Act.put, sA, s0, sS]
        refine wpAnyH_ready (rs := [9]) (by kernel_rfl) (by simp) ?_
        refine AllReadyH.cons (o := { dst := none, op := Op.store 27 (Operand.tmp 11) (Operand.tmp 88), type := 0, pos := "outright.go:83", after := #[{ on := 8, ground := Ground.data }, { on := 6, ground := Ground.data }, { on := 4, ground := Ground.chain }, { on := 0, ground := Ground.phase }, { on := 1, ground := Ground.phase }, { on := 2, ground := Ground.phase }, { on := 3, ground := Ground.phase }, { on := 4, ground := Ground.phase }, { on := 5, ground := Ground.phase }, { on := 6, ground := Ground.phase }, { on := 7, ground := Ground.textOnly Departure.lateStores }, { on := 8, ground := Ground.phase }], guard := none }) rfl (fun K hK => ?_) (AllReadyH.nil)
        go_simp
        skip
        refine hK.out _ _ ?_ (fun hHeld => ?_)
        · exact HKEEP.out _ (by repeat (first | exact HR.out | refine bl_drewN ?_ _ | refine bl_drew ?_ | refine bl_alloc ?_ _ | refine Below.setCell ?_ (by simp; try omega) _))
        clear hK K
        try simp only [Act.put, sA, s0, sS]
        refine wpAnyH_take (i := 10) (oi := { dst := some 12, op := Op.assign (Operand.tmp 89), type := 33, pos := "outright.go:83", after := #[{ on := 7, ground := Ground.data }, { on := 9, ground := Ground.chain }, { on := 0, ground := Ground.phase }, { on := 1, ground := Ground.phase }, { on := 2, ground := Ground.phase }, { on := 3, ground := Ground.phase }, { on := 4, ground := Ground.phase }, { on := 5, ground := Ground.phase }, { on := 6, ground := Ground.phase }, { on := 7, ground := Ground.phase }, { on := 8, ground := Ground.phase }, { on := 9, ground := Ground.phase }], guard := none }) (v := ?_) rfl (by kernel_rfl) (by kernel_rfl) (by kernel_rfl) (fun _ _ _ h => h) (Or.inl ⟨by rfl, ?_⟩) (by assumption) ?_
        rotate_left
        · intro w_ hSw; (try dsimp only at hSw); go_simp; first | done | with_reducible rfl
        try simp only [Act.put, sA, s0, sS]
        refine wpAnyH_done (by kernel_rfl) ?_ _
        clear e0 e1 e2 f0 f1 f2
        go_wp2_with fail
        go_meet
        exact ⟨_, A_, B_, c_, d_, rfl, rfl, Lib.hid (ob_put HO.out XG.out).2, Lib.hid (ob_put HO.out XG.out).1, Lib.hid (by repeat (first | exact HR.out | refine Below.setCell ?_ (by simp; try omega) _))⟩
    case rest =>
     obtain ⟨gaa, Aaa, Baa, caa, daa, rfl, rfl, BZ, BO, BC⟩ := hcut
     obtain ⟨m8, hw_⟩ : ∃ x : World, x = wc := ⟨_, rfl⟩
     subst hw_
     have F21 := Lib.hid (F20.out.below BC.out)
     clear F20
     have F22 := Lib.hid (HS.addB F21.out (g := gaa) (t := 27) (cs := #[.string kaa, .slice Aaa (Jaa).length caa, .slice Baa (Maa).length daa]) (BZ.out))
     clear F21
     have F23 := Lib.hid (F22.out.addO (BO.out))
     clear F22
     replace BB := Lib.hid (bl_then BB.out BC.out)
     clear BZ BO BC
     go_upto_region 8 with fail
     go_cut [104] from 90 (fun s1 wx => s1 = .bool false ∧ Hid (Below m8.heap.size m8 wx))
     case first =>
      as_aux_lemma =>
       have BW := Lib.hid (Below.refl m8.heap.size m8)
       by_cases hX0 : X = 0
       · have SAA : Hid ((decide (kaa = ka) && stEq Jaa Maa a l) = true) := Lib.hid (by obtain ⟨e1, e2, e3⟩ := ESX.out.2 hX0; rw [e1, e2, e3]; simp [stEq])
         have SN : Hid ((decide (kn = ka) && stEq Jn Mn a l) = true) := Lib.hid (by obtain ⟨e1, e2, e3⟩ := ENX.out.2 hX0; rw [e1, e2, e3]; simp [stEq])
         have g1 : (xaa != X) = false := by simpa using ESX.out.1
         have g2 : (xaa == 0) = true := by simpa using ESX.out.1.trans hX0
         have g3 : decide (xaa = 0) = true := decide_eq_true (ESX.out.1.trans hX0)
         have g4 : (xn != xaa) = false := by simpa using ENX.out.1.trans ESX.out.1.symm
         have g5 : (xn == 0) = true := by simpa using ENX.out.1.trans hX0
         have g6 : decide (xn = 0) = true := decide_eq_true (ENX.out.1.trans hX0)
         clear hX0
         have pa_0 : m8.cell? ⟨w.heap.size, 0, none⟩ = some (.string ka) := (F23.out.blk 14 rfl).cell 0
         have pa_1 : m8.cell? ⟨w.heap.size, 1, none⟩ = some (.slice A a.length c1) := (F23.out.blk 14 rfl).cell 1
         have pa_2 : m8.cell? ⟨w.heap.size, 2, none⟩ = some (.slice B l.length c2) := (F23.out.blk 14 rfl).cell 2
         have pa_lt : w.heap.size < m8.heap.size := (F23.out.blk 14 rfl).lt
         go_wp2_with fail
         clear pa_0 pa_1 pa_2 pa_lt
         refine (twinR_any ka A B c1 c2 a l _ (F23.out.rd 11 rfl) (F23.out.rd 10 rfl) sa sl).mono ?_
         rintro e u10 ⟨T1, T2, t1, t2, rfl, hra, hrl, _, _, hb⟩
         have F24 := Lib.hid (F23.out.below hb)
         clear F23
         have F25 := Lib.hid (F24.out.addR (hra))
         clear F24
         have F26 := Lib.hid (F25.out.addR (hrl))
         clear F25
         replace BW := Lib.hid (bl_then BW.out hb)
         replace BB := Lib.hid (bl_then BB.out hb)
         clear hb
         clear hra hrl
         have paa_0 : u10.cell? ⟨gaa, 0, none⟩ = some (.string kaa) := (F26.out.blk 3 rfl).cell 0
         have paa_1 : u10.cell? ⟨gaa, 1, none⟩ = some (.slice Aaa (Jaa).length caa) := (F26.out.blk 3 rfl).cell 1
         have paa_2 : u10.cell? ⟨gaa, 2, none⟩ = some (.slice Baa (Maa).length daa) := (F26.out.blk 3 rfl).cell 2
         have paa_lt : gaa < u10.heap.size := (F26.out.blk 3 rfl).lt
         go_wp2_with fail
         clear paa_0 paa_1 paa_2 paa_lt
         refine (checkq X (F26.out.rd 1 rfl) (F26.out.rd 0 rfl) rfl rfl HR1.out HXX.out).mono ?_
         rintro e u11 ⟨rfl, hb⟩
         have F27 := Lib.hid (F26.out.below hb)
         clear F26
         replace BW := Lib.hid (bl_then BW.out hb)
         replace BB := Lib.hid (bl_then BB.out hb)
         clear hb
         have paa_0 : u11.cell? ⟨gaa, 0, none⟩ = some (.string kaa) := (F27.out.blk 3 rfl).cell 0
         have paa_1 : u11.cell? ⟨gaa, 1, none⟩ = some (.slice Aaa (Jaa).length caa) := (F27.out.blk 3 rfl).cell 1
         have paa_2 : u11.cell? ⟨gaa, 2, none⟩ = some (.slice Baa (Maa).length daa) := (F27.out.blk 3 rfl).cell 2
         have pa_0 : u11.cell? ⟨w.heap.size, 0, none⟩ = some (.string ka) := (F27.out.blk 16 rfl).cell 0
         have pa_1 : u11.cell? ⟨w.heap.size, 1, none⟩ = some (.slice A a.length c1) := (F27.out.blk 16 rfl).cell 1
         have pa_2 : u11.cell? ⟨w.heap.size, 2, none⟩ = some (.slice B l.length c2) := (F27.out.blk 16 rfl).cell 2
         have paa_lt : gaa < u11.heap.size := (F27.out.blk 3 rfl).lt
         have pa_lt : w.heap.size < u11.heap.size := (F27.out.blk 16 rfl).lt
         go_wp2_with fail
         clear paa_0 paa_1 paa_2 paa_lt pa_0 pa_1 pa_2 pa_lt
         refine (lsameq true ((F27.out.own 2 rfl).d.rd jaaa).2.2 ((F27.out.own 2 rfl).s.rd jlaa).2.2 (F27.out.rd 13 rfl) (F27.out.rd 12 rfl) rfl rfl rfl rfl SAA.out).mono ?_
         rintro e u12 ⟨rfl, hb⟩
         have F28 := Lib.hid (F27.out.below hb)
         clear F27
         replace BW := Lib.hid (bl_then BW.out hb)
         replace BB := Lib.hid (bl_then BB.out hb)
         clear hb
         go_wp2_with fail
         all_goals
          go_meet
          exact ⟨rfl, Lib.hid (by repeat (first | exact BW.out | refine bl_drewN ?_ _ | refine bl_drew ?_ | refine bl_alloc ?_ _))⟩
       · have g1 : (xaa != X) = false := by simpa using ESX.out.1
         have g2 : (xaa == 0) = false := by simpa using (fun h => hX0 (ESX.out.1.symm.trans h) : ¬ xaa = 0)
         have g3 : decide (xaa = 0) = false := decide_eq_false (fun h => hX0 (ESX.out.1.symm.trans h))
         have g4 : (xn != xaa) = false := by simpa using ENX.out.1.trans ESX.out.1.symm
         have g5 : (xn == 0) = false := by simpa using (fun h => hX0 (ENX.out.1.symm.trans h) : ¬ xn = 0)
         have g6 : decide (xn = 0) = false := decide_eq_false (fun h => hX0 (ENX.out.1.symm.trans h))
         clear hX0
         have pa_0 : m8.cell? ⟨w.heap.size, 0, none⟩ = some (.string ka) := (F23.out.blk 14 rfl).cell 0
         have pa_1 : m8.cell? ⟨w.heap.size, 1, none⟩ = some (.slice A a.length c1) := (F23.out.blk 14 rfl).cell 1
         have pa_2 : m8.cell? ⟨w.heap.size, 2, none⟩ = some (.slice B l.length c2) := (F23.out.blk 14 rfl).cell 2
         have pa_lt : w.heap.size < m8.heap.size := (F23.out.blk 14 rfl).lt
         go_wp2_with fail
         clear pa_0 pa_1 pa_2 pa_lt
         refine (twinR_any ka A B c1 c2 a l _ (F23.out.rd 11 rfl) (F23.out.rd 10 rfl) sa sl).mono ?_
         rintro e u13 ⟨T1, T2, t1, t2, rfl, hra, hrl, _, _, hb⟩
         have F29 := Lib.hid (F23.out.below hb)
         clear F23
         have F30 := Lib.hid (F29.out.addR (hra))
         clear F29
         have F31 := Lib.hid (F30.out.addR (hrl))
         clear F30
         replace BW := Lib.hid (bl_then BW.out hb)
         replace BB := Lib.hid (bl_then BB.out hb)
         clear hb
         clear hra hrl
         have paa_0 : u13.cell? ⟨gaa, 0, none⟩ = some (.string kaa) := (F31.out.blk 3 rfl).cell 0
         have paa_1 : u13.cell? ⟨gaa, 1, none⟩ = some (.slice Aaa (Jaa).length caa) := (F31.out.blk 3 rfl).cell 1
         have paa_2 : u13.cell? ⟨gaa, 2, none⟩ = some (.slice Baa (Maa).length daa) := (F31.out.blk 3 rfl).cell 2
         have paa_lt : gaa < u13.heap.size := (F31.out.blk 3 rfl).lt
         go_wp2_with fail
         clear paa_0 paa_1 paa_2 paa_lt
         refine (checkq X (F31.out.rd 1 rfl) (F31.out.rd 0 rfl) rfl rfl HR1.out HXX.out).mono ?_
         rintro e u14 ⟨rfl, hb⟩
         have F32 := Lib.hid (F31.out.below hb)
         clear F31
         replace BW := Lib.hid (bl_then BW.out hb)
         replace BB := Lib.hid (bl_then BB.out hb)
         clear hb
         go_wp2_with fail
         all_goals
          go_meet
          exact ⟨rfl, Lib.hid (by repeat (first | exact BW.out | refine bl_drewN ?_ _ | refine bl_drew ?_ | refine bl_alloc ?_ _))⟩
     case rest =>
      obtain ⟨rfl, BC⟩ := hcut
      obtain ⟨m9, hw_⟩ : ∃ x : World, x = wc := ⟨_, rfl⟩
      subst hw_
      have F33 := Lib.hid (F23.out.below BC.out)
      clear F23
      replace BB := Lib.hid (bl_then BB.out BC.out)
      clear BC
      go_upto_region 10 with fail
      go_cut [13, 14] from 105 (fun s1 s2 wx => ∃ (g : Nat) (A_ B_ : Option Addr) (c_ d_ : Nat), s1 = .pointer (some ⟨g, 0, none⟩) ∧ s2 = .int .i64 xn ∧ Hid (GR.Blk wx g 27 #[.string kn, .slice A_ (Jn).length c_, .slice B_ (Mn).length d_]) ∧ Hid (OwnS wx m9.heap.size (.slice A_ (Jn).length c_) (.slice B_ (Mn).length d_) Jn Mn) ∧ Hid (Below m9.heap.size m9 wx))
      case first =>
       as_aux_lemma =>
        have K0 : Hid (m9.cell? ⟨w.heap.size, 0, none⟩ = some (.string ka)) := Lib.hid ((F33.out.blk 14 rfl).cell 0)
        have K1 : Hid (m9.cell? ⟨w.heap.size, 1, none⟩ = some (.slice A a.length c1)) := Lib.hid ((F33.out.blk 14 rfl).cell 1)
        have K2 : Hid (m9.cell? ⟨w.heap.size, 2, none⟩ = some (.slice B l.length c2)) := Lib.hid ((F33.out.blk 14 rfl).cell 2)
        have pa_lt : w.heap.size < m9.heap.size := (F33.out.blk 14 rfl).lt
        have DD_1 := Lib.hid (F33.out.rd 11 rfl)
        have DL_1 := Lib.hid (F33.out.rd 10 rfl)
        have ERd := Lib.hid (show GR.Rd dotK m9 none [] from GR.Rd.nil _ _ _)
        have ERl := Lib.hid (show GR.Rd sibK m9 none [] from GR.Rd.nil _ _ _)
        have HR := Lib.hid (Below.refl m9.heap.size m9)
        have HKEEP : Hid (∀ w', Below m9.heap.size m9 w' → (w'.cell? ⟨w.heap.size, 0, none⟩ = some (.string ka) ∧ w'.cell? ⟨w.heap.size, 1, none⟩ = some (.slice A a.length c1) ∧ w'.cell? ⟨w.heap.size, 2, none⟩ = some (.slice B l.length c2))) := Lib.hid (fun w' hb => ⟨(Below.cell (p := ⟨w.heap.size, 0, none⟩) hb (World.block_lt_of_cell? m9 _ K0.out)).trans K0.out, (Below.cell (p := ⟨w.heap.size, 1, none⟩) hb (World.block_lt_of_cell? m9 _ K1.out)).trans K1.out, (Below.cell (p := ⟨w.heap.size, 2, none⟩) hb (World.block_lt_of_cell? m9 _ K2.out)).trans K2.out⟩)
        refine wp_region_held_drew (S := fun w' => w'.cell? ⟨w.heap.size, 0, none⟩ = some (.string ka) ∧ w'.cell? ⟨w.heap.size, 1, none⟩ = some (.slice A a.length c1) ∧ w'.cell? ⟨w.heap.size, 2, none⟩ = some (.slice B l.length c2)) (by kernel_rfl) ?_ (fun hHeld => ?_)
        · exact ⟨K0.out, K1.out, K2.out⟩
        refine wpAnyH_take (i := 0) (oi := { dst := some 106, op := Op.load 27 (Operand.tmp 3), type := 27, pos := "outright.go:87", after := #[], guard := none }) (v := ?_) rfl (by kernel_rfl) (by kernel_rfl) (by kernel_rfl) (fun _ _ _ h => h) (Or.inl ⟨by rfl, ?_⟩) (by assumption) ?_
        rotate_left
        · intro w_ hSw; (try dsimp only at hSw); go_simp; first | done | with_reducible rfl
        try simp only [Act.put, sA, s0, sS]
        refine wpAnyH_take (i := 2) (oi := { dst := some 108, op := Op.fieldAddr 27 (Operand.tmp 3) 0, type := 0, pos := "outright.go:87", after := #[], guard := none }) (v := ?_) rfl (by kernel_rfl) (by kernel_rfl) (by kernel_rfl) (fun _ _ _ h => h) (Or.inl ⟨by rfl, ?_⟩) (by assumption) ?_
        rotate_left
        · intro w_ hSw; (try dsimp only at hSw); go_simp; first | done | with_reducible rfl
        try simp only [Act.put, sA, s0, sS]
        refine wpAnyH_take (i := 3) (oi := { dst := some 109, op := Op.load 9 (Operand.tmp 108), type := 9, pos := "outright.go:87", after := #[{ on := 2, ground := Ground.data }], guard := none }) (v := ?_) rfl (by kernel_rfl) (by kernel_rfl) (by kernel_rfl) (fun _ _ _ h => h) (Or.inl ⟨by rfl, ?_⟩) (by assumption) ?_
        rotate_left
        · intro w_ hSw; (try dsimp only at hSw); go_simp; first | done | with_reducible rfl
        try simp only [Act.put, sA, s0, sS]
        refine wpAnyH_take (i := 4) (oi := { dst := some 110, op := Op.build 27 #[(0, Operand.tmp 109)], type := 27, pos := "outright.go:87", after := #[{ on := 3, ground := Ground.data }], guard := none }) (v := ?_) rfl (by kernel_rfl) (by kernel_rfl) (by kernel_rfl) (fun _ _ _ h => h) (Or.inl ⟨by rfl, ?_⟩) (by assumption) ?_
        rotate_left
        · intro w_ hSw; (try dsimp only at hSw); go_simp; first | done | with_reducible rfl
        try simp only [Act.put, sA, s0, sS]
        refine wpAnyH_ready (rs := [1, 9]) (by kernel_rfl) (by simp) ?_
        refine AllReadyH.cons (o := { dst := some 107, op := Op.call { callee := Callee.value (Operand.func 10), args := #[Operand.tmp 106], argTypes := #[27] }, type := 27, pos := "outright.go:87", after := #[{ on := 0, ground := Ground.data }], guard := none }) rfl (fun K hK => ?_) (AllReadyH.cons (o := { dst := some 13, op := Op.alloc 27, type := 0, pos := "outright.go:87", after := #[], guard := none }) rfl (fun K hK => ?_) (AllReadyH.nil))
        · skip
          go_simp
          go_at_call 10
          refine (twinR_any ka A B c1 c2 a l _ (GR.Rd.below DD_1.out (by repeat (first | exact HR.out | refine bl_drewN ?_ _ | refine bl_drew ?_ | refine bl_alloc ?_ _))) (GR.Rd.below DL_1.out (by repeat (first | exact HR.out | refine bl_drewN ?_ _ | refine bl_drew ?_ | refine bl_alloc ?_ _))) sa sl).mono ?_
          rintro e q10_1 ⟨A_1, B_1, c_1, d_1, rfl, hra, hrl, hc1, _, hb2⟩
          have bx := bx_of (W := m9) hb2 (by repeat (first | exact HR.out | refine bl_drewN ?_ _ | refine bl_drew ?_ | refine bl_alloc ?_ _))
          have TD_1 := Lib.hid hra
          have TL_1 := Lib.hid hrl
          have TC_1 := hc1
          clear hra hrl
          have hs_1 : m9.heap.size ≤ q10_1.heap.size := (bl_then bx hb2).size
          replace HR := Lib.hid (bl_then bx hb2)
          clear hb2 bx
          refine hK.out _ _ ?_ (fun hHeld => ?_)
          · exact HKEEP.out _ (by repeat (first | exact HR.out | refine bl_drewN ?_ _ | refine bl_drew ?_ | refine bl_alloc ?_ _ | refine Below.setCell ?_ (by simp; try omega) _))
          clear hK K
          try simp only [Act.put, sA, s0, sS]
          refine wpAnyH_ready (rs := [5, 9]) (by kernel_rfl) (by simp) ?_
          refine AllReadyH.cons (o := { dst := some 111, op := Op.call { callee := Callee.value (Operand.func 12), args := #[Operand.tmp 107, Operand.tmp 110], argTypes := #[27, 27] }, type := 34, pos := "outright.go:87", after := #[{ on := 1, ground := Ground.data }, { on := 4, ground := Ground.data }, { on := 1, ground := Ground.chain }], guard := none }) rfl (fun K hK => ?_) (AllReadyH.cons (o := { dst := some 13, op := Op.alloc 27, type := 0, pos := "outright.go:87", after := #[], guard := none }) rfl (fun K hK => ?_) (AllReadyH.nil))
          · skip
            go_simp
            go_at_call 12
            refine (mrgO (Jn) (Mn) xn (GR.Rd.below (w := q10_1) TD_1.out (by repeat (first | exact Below.refl _ _ | refine bl_drewN ?_ _ | refine bl_drew ?_ | refine bl_alloc ?_ _))) (GR.Rd.below (w := q10_1) TL_1.out (by repeat (first | exact Below.refl _ _ | refine bl_drewN ?_ _ | refine bl_drew ?_ | refine bl_alloc ?_ _))) (GR.Rd.below ERd.out (by repeat (first | exact HR.out | refine bl_drewN ?_ _ | refine bl_drew ?_ | refine bl_alloc ?_ _))) (GR.Rd.below ERl.out (by repeat (first | exact HR.out | refine bl_drewN ?_ _ | refine bl_drew ?_ | refine bl_alloc ?_ _))) rfl rfl rfl rfl TC_1 (Nat.le_refl _) HR1.out RN.out Enk.out Enj.out Enm.out Enx.out).mono ?_
            rintro e q10_5 ⟨A_, B_, c_, d_, rfl, ho, hb2⟩
            have bx := bx_of (W := m9) hb2 (by repeat (first | exact HR.out | refine bl_drewN ?_ _ | refine bl_drew ?_ | refine bl_alloc ?_ _))
            have br := bx_of (W := q10_1) hb2 (by repeat (first | exact Below.refl _ _ | refine bl_drewN ?_ _ | refine bl_drew ?_ | refine bl_alloc ?_ _))
            replace TD_1 := Lib.hid ((TD_1.out.below br).below hb2)
            replace TL_1 := Lib.hid ((TL_1.out.below br).below hb2)
            have HO := Lib.hid (OwnS.base ho (B' := m9.heap.size) bx.size)
            clear ho
            have hs_5 : m9.heap.size ≤ q10_5.heap.size := (bl_then bx hb2).size
            replace HR := Lib.hid (bl_then bx hb2)
            clear hb2 bx br
            refine hK.out _ _ ?_ (fun hHeld => ?_)
            · exact HKEEP.out _ (by repeat (first | exact HR.out | refine bl_drewN ?_ _ | refine bl_drew ?_ | refine bl_alloc ?_ _ | refine Below.setCell ?_ (by simp; try omega) _))
            clear hK K
            try simp only [Act.put, sA, s0, sS]
            refine wpAnyH_take (i := 6) (oi := { dst := some 105, op := Op.move (Operand.tmp 111), type := 34, pos := "outright.go:87", after := #[{ on := 5, ground := Ground.data }], guard := none }) (v := ?_) rfl (by kernel_rfl) (by kernel_rfl) (by kernel_rfl) (fun _ _ _ h => h) (Or.inl ⟨by rfl, ?_⟩) (by assumption) ?_
            rotate_left
            · intro w_ hSw; (try dsimp only at hSw); go_simp; first | done | with_reducible rfl
            try simp only [Act.put, sA, s0, sS]
            refine wpAnyH_take (i := 7) (oi := { dst := some 112, op := Op.extract (Operand.tmp 105) 0, type := 27, pos := "outright.go:87", after := #[{ on := 6, ground := Ground.data }], guard := none }) (v := ?_) rfl (by kernel_rfl) (by kernel_rfl) (by kernel_rfl) (fun _ _ _ h => h) (Or.inl ⟨by rfl, ?_⟩) (by assumption) ?_
            rotate_left
            · intro w_ hSw; (try dsimp only at hSw); go_simp; first | done | with_reducible rfl
            try simp only [Act.put, sA, s0, sS]
            refine wpAnyH_take (i := 8) (oi := { dst := some 113, op := Op.extract (Operand.tmp 105) 1, type := 33, pos := "outright.go:87", after := #[{ on := 6, ground := Ground.data }, { on := 10, ground := Ground.gcOnly Departure.lateStores }], guard := none }) (v := ?_) rfl (by kernel_rfl) (by kernel_rfl) (by kernel_rfl) (fun _ _ _ h => h) (Or.inl ⟨by rfl, ?_⟩) (by assumption) ?_
            rotate_left
            · intro w_ hSw; (try dsimp only at hSw); go_simp; first | done | with_reducible rfl
            try simp only [Act.put, sA, s0, sS]
            refine wpAnyH_ready (rs := [9]) (by kernel_rfl) (by simp) ?_
            refine AllReadyH.cons (o := { dst := some 13, op := Op.alloc 27, type := 0, pos := "outright.go:87", after := #[], guard := none }) rfl (fun K hK => ?_) (AllReadyH.nil)
            go_simp
            skip
            refine hK.out _ _ ?_ (fun hHeld => ?_)
            · exact HKEEP.out _ (by repeat (first | exact HR.out | refine bl_drewN ?_ _ | refine bl_drew ?_ | refine bl_alloc ?_ _ | refine Below.setCell ?_ (by simp; try omega) _))
            clear hK K
            try simp only [Act.put, sA, s0, sS]
            refine wpAnyH_ready (rs := [10]) (by kernel_rfl) (by simp) ?_
            refine AllReadyH.cons (o := { dst := none, op := Op.store 27 (Operand.tmp 13) (Operand.tmp 112), type := 0, pos := "outright.go:87", after := #[{ on := 9, ground := Ground.data }, { on := 7, ground := Ground.data }, { on := 5, ground := Ground.chain }, { on := 0, ground := Ground.phase }, { on := 1, ground := Ground.phase }, { on := 2, ground := Ground.phase }, { on := 3, ground := Ground.phase }, { on := 4, ground := Ground.phase }, { on := 5, ground := Ground.phase }, { on := 6, ground := Ground.phase }, { on := 7, ground := Ground.phase }, { on := 8, ground := Ground.textOnly Departure.lateStores }, { on := 9, ground := Ground.phase }], guard := none }) rfl (fun K hK => ?_) (AllReadyH.nil)
            go_simp
            skip
            refine hK.out _ _ ?_ (fun hHeld => ?_)
            · exact HKEEP.out _ (by repeat (first | exact HR.out | refine bl_drewN ?_ _ | refine bl_drew ?_ | refine bl_alloc ?_ _ | refine Below.setCell ?_ (by simp; try omega) _))
            clear hK K
            try simp only [Act.put, sA, s0, sS]
            refine wpAnyH_take (i := 11) (oi := { dst := some 14, op := Op.assign (Operand.tmp 113), type := 33, pos := "outright.go:87", after := #[{ on := 8, ground := Ground.data }, { on := 10, ground := Ground.chain }, { on := 0, ground := Ground.phase }, { on := 1, ground := Ground.phase }, { on := 2, ground := Ground.phase }, { on := 3, ground := Ground.phase }, { on := 4, ground := Ground.phase }, { on := 5, ground := Ground.phase }, { on := 6, ground := Ground.phase }, { on := 7, ground := Ground.phase }, { on := 8, ground := Ground.phase }, { on := 9, ground := Ground.phase }, { on := 10, ground := Ground.phase }], guard := none }) (v := ?_) rfl (by kernel_rfl) (by kernel_rfl) (by kernel_rfl) (fun _ _ _ h => h) (Or.inl ⟨by rfl, ?_⟩) (by assumption) ?_
            rotate_left
            · intro w_ hSw; (try dsimp only at hSw); go_simp; first | done | with_reducible rfl
            try simp only [Act.put, sA, s0, sS]
            refine wpAnyH_done (by kernel_rfl) ?_ _
            go_wp2_with fail
            go_meet
            exact ⟨_, A_, B_, c_, d_, rfl, rfl, Lib.hid (GR.Blk.new _ _ _), Lib.hid (OwnS.below HO.out (by repeat (first | exact Below.refl _ _ | refine bl_drewN ?_ _ | refine bl_drew ?_ | refine bl_alloc ?_ _))), Lib.hid (by repeat (first | exact HR.out | refine bl_drewN ?_ _ | refine bl_drew ?_ | refine bl_alloc ?_ _))⟩
          · skip
            go_simp
            skip
            refine hK.out _ _ ?_ (fun hHeld => ?_)
            · exact HKEEP.out _ (by repeat (first | exact HR.out | refine bl_drewN ?_ _ | refine bl_drew ?_ | refine bl_alloc ?_ _ | refine Below.setCell ?_ (by simp; try omega) _))
            clear hK K
            try simp only [Act.put, sA, s0, sS]
            refine wpAnyH_ready (rs := [5]) (by kernel_rfl) (by simp) ?_
            refine AllReadyH.cons (o := { dst := some 111, op := Op.call { callee := Callee.value (Operand.func 12), args := #[Operand.tmp 107, Operand.tmp 110], argTypes := #[27, 27] }, type := 34, pos := "outright.go:87", after := #[{ on := 1, ground := Ground.data }, { on := 4, ground := Ground.data }, { on := 1, ground := Ground.chain }], guard := none }) rfl (fun K hK => ?_) (AllReadyH.nil)
            go_simp
            go_at_call 12
            refine (mrgO (Jn) (Mn) xn (GR.Rd.below (w := q10_1) TD_1.out (by repeat (first | exact Below.refl _ _ | refine bl_drewN ?_ _ | refine bl_drew ?_ | refine bl_alloc ?_ _))) (GR.Rd.below (w := q10_1) TL_1.out (by repeat (first | exact Below.refl _ _ | refine bl_drewN ?_ _ | refine bl_drew ?_ | refine bl_alloc ?_ _))) (GR.Rd.below ERd.out (by repeat (first | exact HR.out | refine bl_drewN ?_ _ | refine bl_drew ?_ | refine bl_alloc ?_ _))) (GR.Rd.below ERl.out (by repeat (first | exact HR.out | refine bl_drewN ?_ _ | refine bl_drew ?_ | refine bl_alloc ?_ _))) rfl rfl rfl rfl TC_1 (Nat.le_refl _) HR1.out RN.out Enk.out Enj.out Enm.out Enx.out).mono ?_
            rintro e q10_5 ⟨A_, B_, c_, d_, rfl, ho, hb2⟩
            have bx := bx_of (W := m9) hb2 (by repeat (first | exact HR.out | refine bl_drewN ?_ _ | refine bl_drew ?_ | refine bl_alloc ?_ _))
            have br := bx_of (W := q10_1) hb2 (by repeat (first | exact Below.refl _ _ | refine bl_drewN ?_ _ | refine bl_drew ?_ | refine bl_alloc ?_ _))
            replace TD_1 := Lib.hid ((TD_1.out.below br).below hb2)
            replace TL_1 := Lib.hid ((TL_1.out.below br).below hb2)
            have XG : Hid (GR.Blk q10_5 q10_1.heap.size 27 #[.string ⟨#[]⟩, .slice none 0 0, .slice none 0 0]) := Lib.hid (by
             refine GR.Blk.below ?_ hb2 ?_
             · exact new_at _ _ _ (by simp)
             · simp)
            have HO := Lib.hid (OwnS.base ho (B' := m9.heap.size) bx.size)
            clear ho
            have e0 := XG.out.cell 0
            have e1 := XG.out.cell 1
            have e2 := XG.out.cell 2
            have f0 := XG.out.frozen 0
            have f1 := XG.out.frozen 1
            have f2 := XG.out.frozen 2
            have hs_5 : m9.heap.size ≤ q10_5.heap.size := (bl_then bx hb2).size
            replace HR := Lib.hid (bl_then bx hb2)
            clear hb2 bx br
            refine hK.out _ _ ?_ (fun hHeld => ?_)
            · exact HKEEP.out _ (by repeat (first | exact HR.out | refine bl_drewN ?_ _ | refine bl_drew ?_ | refine bl_alloc ?_ _ | refine Below.setCell ?_ (by simp; try omega) _))
            clear hK K
            try simp only [Act.put, sA, s0, sS]
            refine wpAnyH_take (i := 6) (oi := { dst := some 105, op := Op.move (Operand.tmp 111), type := 34, pos := "outright.go:87", after := #[{ on := 5, ground := Ground.data }], guard := none }) (v := ?_) rfl (by kernel_rfl) (by kernel_rfl) (by kernel_rfl) (fun _ _ _ h => h) (Or.inl ⟨by rfl, ?_⟩) (by assumption) ?_
            rotate_left
            · intro w_ hSw; (try dsimp only at hSw); go_simp; first | done | with_reducible rfl
            try simp only [Act.put, sA, s0, sS]
            refine wpAnyH_take (i := 7) (oi := { dst := some 112, op := Op.extract (Operand.tmp 105) 0, type := 27, pos := "outright.go:87", after := #[{ on := 6, ground := Ground.data }], guard := none }) (v := ?_) rfl (by kernel_rfl) (by kernel_rfl) (by kernel_rfl) (fun _ _ _ h => h) (Or.inl ⟨by rfl, ?_⟩) (by assumption) ?_
            rotate_left
            · intro w_ hSw; (try dsimp only at hSw); go_simp; first | done | with_reducible rfl
            try simp only [Act.put, sA, s0, sS]
            refine wpAnyH_take (i := 8) (oi := { dst := some 113, op := Op.extract (Operand.tmp 105) 1, type := 33, pos := "outright.go:87", after := #[{ on := 6, ground := Ground.data }, { on := 10, ground := Ground.gcOnly Departure.lateStores }], guard := none }) (v := ?_) rfl (by kernel_rfl) (by kernel_rfl) (by kernel_rfl) (fun _ _ _ h => h) (Or.inl ⟨by rfl, ?_⟩) (by assumption) ?_
            rotate_left
            · intro w_ hSw; (try dsimp only at hSw); go_simp; first | done | with_reducible rfl
            try simp only [Act.put, sA, s0, sS]
            refine wpAnyH_ready (rs := [10]) (by kernel_rfl) (by simp) ?_
            refine AllReadyH.cons (o := { dst := none, op := Op.store 27 (Operand.tmp 13) (Operand.tmp 112), type := 0, pos := "outright.go:87", after := #[{ on := 9, ground := Ground.data }, { on := 7, ground := Ground.data }, { on := 5, ground := Ground.chain }, { on := 0, ground := Ground.phase }, { on := 1, ground := Ground.phase }, { on := 2, ground := Ground.phase }, { on := 3, ground := Ground.phase }, { on := 4, ground := Ground.phase }, { on := 5, ground := Ground.phase }, { on := 6, ground := Ground.phase }, { on := 7, ground := Ground.phase }, { on := 8, ground := Ground.textOnly Departure.lateStores }, { on := 9, ground := Ground.phase }], guard := none }) rfl (fun K hK => ?_) (AllReadyH.nil)
            go_simp
            skip
            refine hK.out _ _ ?_ (fun hHeld => ?_)
            · exact HKEEP.out _ (by repeat (first | exact HR.out | refine bl_drewN ?_ _ | refine bl_drew ?_ | refine bl_alloc ?_ _ | refine Below.setCell ?_ (by simp; try omega) _))
            clear hK K
            try simp only [Act.put, sA, s0, sS]
            refine wpAnyH_take (i := 11) (oi := { dst := some 14, op := Op.assign (Operand.tmp 113), type := 33, pos := "outright.go:87", after := #[{ on := 8, ground := Ground.data }, { on := 10, ground := Ground.chain }, { on := 0, ground := Ground.phase }, { on := 1, ground := Ground.phase }, { on := 2, ground := Ground.phase }, { on := 3, ground := Ground.phase }, { on := 4, ground := Ground.phase }, { on := 5, ground := Ground.phase }, { on := 6, ground := Ground.phase }, { on := 7, ground := Ground.phase }, { on := 8, ground := Ground.phase }, { on := 9, ground := Ground.phase }, { on := 10, ground := Ground.phase }], guard := none }) (v := ?_) rfl (by kernel_rfl) (by kernel_rfl) (by kernel_rfl) (fun _ _ _ h => h) (Or.inl ⟨by rfl, ?_⟩) (by assumption) ?_
            rotate_left
            · intro w_ hSw; (try dsimp only at hSw); go_simp; first | done | with_reducible rfl
            try simp only [Act.put, sA, s0, sS]
            refine wpAnyH_done (by kernel_rfl) ?_ _
            clear e0 e1 e2 f0 f1 f2
            go_wp2_with fail
            go_meet
            exact ⟨_, A_, B_, c_, d_, rfl, rfl, Lib.hid (ob_put HO.out XG.out).2, Lib.hid (ob_put HO.out XG.out).1, Lib.hid (by repeat (first | exact HR.out | refine Below.setCell ?_ (by simp; try omega) _))⟩
        · skip
          go_simp
          skip
          refine hK.out _ _ ?_ (fun hHeld => ?_)
          · exact HKEEP.out _ (by repeat (first | exact HR.out | refine bl_drewN ?_ _ | refine bl_drew ?_ | refine bl_alloc ?_ _ | refine Below.setCell ?_ (by simp; try omega) _))
          clear hK K
          try simp only [Act.put, sA, s0, sS]
          refine wpAnyH_ready (rs := [1]) (by kernel_rfl) (by simp) ?_
          refine AllReadyH.cons (o := { dst := some 107, op := Op.call { callee := Callee.value (Operand.func 10), args := #[Operand.tmp 106], argTypes := #[27] }, type := 27, pos := "outright.go:87", after := #[{ on := 0, ground := Ground.data }], guard := none }) rfl (fun K hK => ?_) (AllReadyH.nil)
          go_simp
          go_at_call 10
          refine (twinR_any ka A B c1 c2 a l _ (GR.Rd.below DD_1.out (by repeat (first | exact HR.out | refine bl_drewN ?_ _ | refine bl_drew ?_ | refine bl_alloc ?_ _))) (GR.Rd.below DL_1.out (by repeat (first | exact HR.out | refine bl_drewN ?_ _ | refine bl_drew ?_ | refine bl_alloc ?_ _))) sa sl).mono ?_
          rintro e q10_1 ⟨A_1, B_1, c_1, d_1, rfl, hra, hrl, hc1, _, hb2⟩
          have bx := bx_of (W := m9) hb2 (by repeat (first | exact HR.out | refine bl_drewN ?_ _ | refine bl_drew ?_ | refine bl_alloc ?_ _))
          have TD_1 := Lib.hid hra
          have TL_1 := Lib.hid hrl
          have TC_1 := hc1
          clear hra hrl
          have XG : Hid (GR.Blk q10_1 m9.heap.size 27 #[.string ⟨#[]⟩, .slice none 0 0, .slice none 0 0]) := Lib.hid (by
           refine GR.Blk.below ?_ hb2 ?_
           · exact new_at _ _ _ (by simp)
           · simp)
          have hs_1 : m9.heap.size ≤ q10_1.heap.size := (bl_then bx hb2).size
          replace HR := Lib.hid (bl_then bx hb2)
          clear hb2 bx
          refine hK.out _ _ ?_ (fun hHeld => ?_)
          · exact HKEEP.out _ (by repeat (first | exact HR.out | refine bl_drewN ?_ _ | refine bl_drew ?_ | refine bl_alloc ?_ _ | refine Below.setCell ?_ (by simp; try omega) _))
          clear hK K
          try simp only [Act.put, sA, s0, sS]
          refine wpAnyH_ready (rs := [5]) (by kernel_rfl) (by simp) ?_
          refine AllReadyH.cons (o := { dst := some 111, op := Op.call { callee := Callee.value (Operand.func 12), args := #[Operand.tmp 107, Operand.tmp 110], argTypes := #[27, 27] }, type := 34, pos := "outright.go:87", after := #[{ on := 1, ground := Ground.data }, { on := 4, ground := Ground.data }, { on := 1, ground := Ground.chain }], guard := none }) rfl (fun K hK => ?_) (AllReadyH.nil)
          go_simp
          go_at_call 12
          refine (mrgO (Jn) (Mn) xn (GR.Rd.below (w := q10_1) TD_1.out (by repeat (first | exact Below.refl _ _ | refine bl_drewN ?_ _ | refine bl_drew ?_ | refine bl_alloc ?_ _))) (GR.Rd.below (w := q10_1) TL_1.out (by repeat (first | exact Below.refl _ _ | refine bl_drewN ?_ _ | refine bl_drew ?_ | refine bl_alloc ?_ _))) (GR.Rd.below ERd.out (by repeat (first | exact HR.out | refine bl_drewN ?_ _ | refine bl_drew ?_ | refine bl_alloc ?_ _))) (GR.Rd.below ERl.out (by repeat (first | exact HR.out | refine bl_drewN ?_ _ | refine bl_drew ?_ | refine bl_alloc ?_ _))) rfl rfl rfl rfl TC_1 (Nat.le_refl _) HR1.out RN.out Enk.out Enj.out Enm.out Enx.out).mono ?_
          rintro e q10_5 ⟨A_, B_, c_, d_, rfl, ho, hb2⟩
          have bx := bx_of (W := m9) hb2 (by repeat (first | exact HR.out | refine bl_drewN ?_ _ | refine bl_drew ?_ | refine bl_alloc ?_ _))
          have br := bx_of (W := q10_1) hb2 (by repeat (first | exact Below.refl _ _ | refine bl_drewN ?_ _ | refine bl_drew ?_ | refine bl_alloc ?_ _))
          replace TD_1 := Lib.hid ((TD_1.out.below br).below hb2)
          replace TL_1 := Lib.hid ((TL_1.out.below br).below hb2)
          replace XG := Lib.hid (blk_up XG.out br hb2)
          have HO := Lib.hid (OwnS.base ho (B' := m9.heap.size) bx.size)
          clear ho
          have e0 := XG.out.cell 0
          have e1 := XG.out.cell 1
          have e2 := XG.out.cell 2
          have f0 := XG.out.frozen 0
          have f1 := XG.out.frozen 1
          have f2 := XG.out.frozen 2
          have hs_5 : m9.heap.size ≤ q10_5.heap.size := (bl_then bx hb2).size
          replace HR := Lib.hid (bl_then bx hb2)
          clear hb2 bx br
          refine hK.out _ _ ?_ (fun hHeld => ?_)
          · exact HKEEP.out _ (by repeat (first | exact HR.out | refine bl_drewN ?_ _ | refine bl_drew ?_ | refine bl_alloc ?_ _ | refine Below.setCell ?_ (by simp; try omega) _))
          clear hK K
          try simp only [Act.put, sA, s0, sS]
          refine wpAnyH_take (i := 6) (oi := { dst := some 105, op := Op.move (Operand.tmp 111), type := 34, pos := "outright.go:87", after := #[{ on := 5, ground := Ground.data }], guard := none }) (v := ?_) rfl (by kernel_rfl) (by kernel_rfl) (by kernel_rfl) (fun _ _ _ h => h) (Or.inl ⟨by rfl, ?_⟩) (by assumption) ?_
          rotate_left
          · intro w_ hSw; (try dsimp only at hSw); go_simp; first | done | with_reducible rfl
          try simp only [Act.put, sA, s0, sS]
          refine wpAnyH_take (i := 7) (oi := { dst := some 112, op := Op.extract (Operand.tmp 105) 0, type := 27, pos := "outright.go:87", after := #[{ on := 6, ground := Ground.data }], guard := none }) (v := ?_) rfl (by kernel_rfl) (by kernel_rfl) (by kernel_rfl) (fun _ _ _ h => h) (Or.inl ⟨by rfl, ?_⟩) (by assumption) ?_
          rotate_left
          · intro w_ hSw; (try dsimp only at hSw); go_simp; first | done | with_reducible rfl
          try simp only [Act.put, sA, s0, sS]
          refine wpAnyH_take (i := 8) (oi := { dst := some 113, op := Op.extract (Operand.tmp 105) 1, type := 33, pos := "outright.go:87", after := #[{ on := 6, ground := Ground.data }, { on := 10, ground := Ground.gcOnly Departure.lateStores }], guard := none }) (v := ?_) rfl (by kernel_rfl) (by kernel_rfl) (by kernel_rfl) (fun _ _ _ h => h) (Or.inl ⟨by rfl, ?_⟩) (by assumption) ?_
          rotate_left
          · intro w_ hSw; (try dsimp only at hSw); go_simp; first | done | with_reducible rfl
          try simp only [Act.put, sA, s0, sS]
          refine wpAnyH_ready (rs := [10]) (by kernel_rfl) (by simp) ?_
          refine AllReadyH.cons (o := { dst := none, op := Op.store 27 (Operand.tmp 13) (Operand.tmp 112), type := 0, pos := "outright.go:87", after := #[{ on := 9, ground := Ground.data }, { on := 7, ground := Ground.data }, { on := 5, ground := Ground.chain }, { on := 0, ground := Ground.phase }, { on := 1, ground := Ground.phase }, { on := 2, ground := Ground.phase }, { on := 3, ground := Ground.phase }, { on := 4, ground := Ground.phase }, { on := 5, ground := Ground.phase }, { on := 6, ground := Ground.phase }, { on := 7, ground := Ground.phase }, { on := 8, ground := Ground.textOnly Departure.lateStores }, { on := 9, ground := Ground.phase }], guard := none }) rfl (fun K hK => ?_) (AllReadyH.nil)
          go_simp
          skip
          refine hK.out _ _ ?_ (fun hHeld => ?_)
          · exact HKEEP.out _ (by repeat (first | exact HR.out | refine bl_drewN ?_ _ | refine bl_drew ?_ | refine bl_alloc ?_ _ | refine Below.setCell ?_ (by simp; try omega) _))
          clear hK K
          try simp only [Act.put, sA, s0, sS]
          refine wpAnyH_take (i := 11) (oi := { dst := some 14, op := Op.assign (Operand.tmp 113), type := 33, pos := "outright.go:87", after := #[{ on := 8, ground := Ground.data }, { on := 10, ground := Ground.chain }, { on := 0, ground := Ground.phase }, { on := 1, ground := Ground.phase }, { on := 2, ground := Ground.phase }, { on := 3, ground := Ground.phase }, { on := 4, ground := Ground.phase }, { on := 5, ground := Ground.phase }, { on := 6, ground := Ground.phase }, { on := 7, ground := Ground.phase }, { on := 8, ground := Ground.phase }, { on := 9, ground := Ground.phase }, { on := 10, ground := Ground.phase }], guard := none }) (v := ?_) rfl (by kernel_rfl) (by kernel_rfl) (by kernel_rfl) (fun _ _ _ h => h) (Or.inl ⟨by rfl, ?_⟩) (by assumption) ?_
          rotate_left
          · intro w_ hSw; (try dsimp only at hSw); go_simp; first | done | with_reducible rfl
          try simp only [Act.put, sA, s0, sS]
          refine wpAnyH_done (by kernel_rfl) ?_ _
          clear e0 e1 e2 f0 f1 f2
          go_wp2_with fail
          go_meet
          exact ⟨_, A_, B_, c_, d_, rfl, rfl, Lib.hid (ob_put HO.out XG.out).2, Lib.hid (ob_put HO.out XG.out).1, Lib.hid (by repeat (first | exact HR.out | refine Below.setCell ?_ (by simp; try omega) _))⟩
      case rest =>
       obtain ⟨gn, An, Bn, cn, dn, rfl, rfl, BZ, BO, BC⟩ := hcut
       obtain ⟨m15, hw_⟩ : ∃ x : World, x = wc := ⟨_, rfl⟩
       subst hw_
       have F34 := Lib.hid (F33.out.below BC.out)
       clear F33
       have F35 := Lib.hid (HS.addB F34.out (g := gn) (t := 27) (cs := #[.string kn, .slice An (Jn).length cn, .slice Bn (Mn).length dn]) (BZ.out))
       clear F34
       have F36 := Lib.hid (F35.out.addO (BO.out))
       clear F35
       replace BB := Lib.hid (bl_then BB.out BC.out)
       clear BZ BO BC
       go_upto_region 11 with fail
       go_cut [126] from 114 (fun s1 wx => s1 = .bool false ∧ Hid (Below m15.heap.size m15 wx))
       case first =>
        as_aux_lemma =>
         have BW := Lib.hid (Below.refl m15.heap.size m15)
         by_cases hX0 : X = 0
         · have SAA : Hid ((decide (kaa = ka) && stEq Jaa Maa a l) = true) := Lib.hid (by obtain ⟨e1, e2, e3⟩ := ESX.out.2 hX0; rw [e1, e2, e3]; simp [stEq])
           have SN : Hid ((decide (kn = ka) && stEq Jn Mn a l) = true) := Lib.hid (by obtain ⟨e1, e2, e3⟩ := ENX.out.2 hX0; rw [e1, e2, e3]; simp [stEq])
           have g1 : (xaa != X) = false := by simpa using ESX.out.1
           have g2 : (xaa == 0) = true := by simpa using ESX.out.1.trans hX0
           have g3 : decide (xaa = 0) = true := decide_eq_true (ESX.out.1.trans hX0)
           have g4 : (xn != xaa) = false := by simpa using ENX.out.1.trans ESX.out.1.symm
           have g5 : (xn == 0) = true := by simpa using ENX.out.1.trans hX0
           have g6 : decide (xn = 0) = true := decide_eq_true (ENX.out.1.trans hX0)
           clear hX0
           have pn_0 : m15.cell? ⟨gn, 0, none⟩ = some (.string kn) := (F36.out.blk 1 rfl).cell 0
           have pn_1 : m15.cell? ⟨gn, 1, none⟩ = some (.slice An (Jn).length cn) := (F36.out.blk 1 rfl).cell 1
           have pn_2 : m15.cell? ⟨gn, 2, none⟩ = some (.slice Bn (Mn).length dn) := (F36.out.blk 1 rfl).cell 2
           have pa_0 : m15.cell? ⟨w.heap.size, 0, none⟩ = some (.string ka) := (F36.out.blk 16 rfl).cell 0
           have pa_1 : m15.cell? ⟨w.heap.size, 1, none⟩ = some (.slice A a.length c1) := (F36.out.blk 16 rfl).cell 1
           have pa_2 : m15.cell? ⟨w.heap.size, 2, none⟩ = some (.slice B l.length c2) := (F36.out.blk 16 rfl).cell 2
           have pn_lt : gn < m15.heap.size := (F36.out.blk 1 rfl).lt
           have pa_lt : w.heap.size < m15.heap.size := (F36.out.blk 16 rfl).lt
           go_wp2_with fail
           clear pn_0 pn_1 pn_2 pn_lt pa_0 pa_1 pa_2 pa_lt
           refine (lsameq true ((F36.out.own 0 rfl).d.rd jan).2.2 ((F36.out.own 0 rfl).s.rd jln).2.2 (F36.out.rd 13 rfl) (F36.out.rd 12 rfl) rfl rfl rfl rfl SN.out).mono ?_
           rintro e u17 ⟨rfl, hb⟩
           have F37 := Lib.hid (F36.out.below hb)
           clear F36
           replace BW := Lib.hid (bl_then BW.out hb)
           replace BB := Lib.hid (bl_then BB.out hb)
           clear hb
           go_wp2_with fail
           all_goals
            go_meet
            exact ⟨rfl, Lib.hid (by repeat (first | exact BW.out | refine bl_drewN ?_ _ | refine bl_drew ?_ | refine bl_alloc ?_ _))⟩
         · have g1 : (xaa != X) = false := by simpa using ESX.out.1
           have g2 : (xaa == 0) = false := by simpa using (fun h => hX0 (ESX.out.1.symm.trans h) : ¬ xaa = 0)
           have g3 : decide (xaa = 0) = false := decide_eq_false (fun h => hX0 (ESX.out.1.symm.trans h))
           have g4 : (xn != xaa) = false := by simpa using ENX.out.1.trans ESX.out.1.symm
           have g5 : (xn == 0) = false := by simpa using (fun h => hX0 (ENX.out.1.symm.trans h) : ¬ xn = 0)
           have g6 : decide (xn = 0) = false := decide_eq_false (fun h => hX0 (ENX.out.1.symm.trans h))
           clear hX0
           go_wp2_with fail
           all_goals
            go_meet
            exact ⟨rfl, Lib.hid (by repeat (first | exact BW.out | refine bl_drewN ?_ _ | refine bl_drew ?_ | refine bl_alloc ?_ _))⟩
       case rest =>
        obtain ⟨rfl, BC⟩ := hcut
        obtain ⟨m16, hw_⟩ : ∃ x : World, x = wc := ⟨_, rfl⟩
        subst hw_
        have F38 := Lib.hid (F36.out.below BC.out)
        clear F36
        replace BB := Lib.hid (bl_then BB.out BC.out)
        clear BC
        go_upto_region 13 with fail
        go_cut [15, 16] from 127 (fun s1 s2 wx => ∃ (g : Nat) (A_ B_ : Option Addr) (c_ d_ : Nat), s1 = .pointer (some ⟨g, 0, none⟩) ∧ s2 = .int .i64 x23 ∧ Hid (GR.Blk wx g 27 #[.string k23, .slice A_ (J23).length c_, .slice B_ (M23).length d_]) ∧ Hid (OwnS wx m16.heap.size (.slice A_ (J23).length c_) (.slice B_ (M23).length d_) J23 M23) ∧ Hid (Below m16.heap.size m16 wx))
        case first =>
         as_aux_lemma =>
          have K0 : Hid (m16.cell? ⟨w.heap.size + 1, 0, none⟩ = some (.string kb)) := Lib.hid ((F38.out.blk 15 rfl).cell 0)
          have K1 : Hid (m16.cell? ⟨w.heap.size + 1, 1, none⟩ = some (.slice C b.length c3)) := Lib.hid ((F38.out.blk 15 rfl).cell 1)
          have K2 : Hid (m16.cell? ⟨w.heap.size + 1, 2, none⟩ = some (.slice D m.length c4)) := Lib.hid ((F38.out.blk 15 rfl).cell 2)
          have pb_lt : w.heap.size + 1 < m16.heap.size := (F38.out.blk 15 rfl).lt
          have K3 : Hid (m16.cell? ⟨w.heap.size + 1 + 1, 0, none⟩ = some (.string kc)) := Lib.hid ((F38.out.blk 14 rfl).cell 0)
          have K4 : Hid (m16.cell? ⟨w.heap.size + 1 + 1, 1, none⟩ = some (.slice E c.length c5)) := Lib.hid ((F38.out.blk 14 rfl).cell 1)
          have K5 : Hid (m16.cell? ⟨w.heap.size + 1 + 1, 2, none⟩ = some (.slice G n.length c6)) := Lib.hid ((F38.out.blk 14 rfl).cell 2)
          have pc_lt : w.heap.size + 1 + 1 < m16.heap.size := (F38.out.blk 14 rfl).lt
          have DD_1 := Lib.hid (F38.out.rd 11 rfl)
          have DL_1 := Lib.hid (F38.out.rd 10 rfl)
          have DD_3 := Lib.hid (F38.out.rd 9 rfl)
          have DL_3 := Lib.hid (F38.out.rd 8 rfl)
          have HR := Lib.hid (Below.refl m16.heap.size m16)
          have HKEEP : Hid (∀ w', Below m16.heap.size m16 w' → (w'.cell? ⟨w.heap.size + 1, 0, none⟩ = some (.string kb) ∧ w'.cell? ⟨w.heap.size + 1, 1, none⟩ = some (.slice C b.length c3) ∧ w'.cell? ⟨w.heap.size + 1, 2, none⟩ = some (.slice D m.length c4) ∧ w'.cell? ⟨w.heap.size + 1 + 1, 0, none⟩ = some (.string kc) ∧ w'.cell? ⟨w.heap.size + 1 + 1, 1, none⟩ = some (.slice E c.length c5) ∧ w'.cell? ⟨w.heap.size + 1 + 1, 2, none⟩ = some (.slice G n.length c6))) := Lib.hid (fun w' hb => ⟨(Below.cell (p := ⟨w.heap.size + 1, 0, none⟩) hb (World.block_lt_of_cell? m16 _ K0.out)).trans K0.out, (Below.cell (p := ⟨w.heap.size + 1, 1, none⟩) hb (World.block_lt_of_cell? m16 _ K1.out)).trans K1.out, (Below.cell (p := ⟨w.heap.size + 1, 2, none⟩) hb (World.block_lt_of_cell? m16 _ K2.out)).trans K2.out, (Below.cell (p := ⟨w.heap.size + 1 + 1, 0, none⟩) hb (World.block_lt_of_cell? m16 _ K3.out)).trans K3.out, (Below.cell (p := ⟨w.heap.size + 1 + 1, 1, none⟩) hb (World.block_lt_of_cell? m16 _ K4.out)).trans K4.out, (Below.cell (p := ⟨w.heap.size + 1 + 1, 2, none⟩) hb (World.block_lt_of_cell? m16 _ K5.out)).trans K5.out⟩)
          refine wp_region_held_drew (S := fun w' => w'.cell? ⟨w.heap.size + 1, 0, none⟩ = some (.string kb) ∧ w'.cell? ⟨w.heap.size + 1, 1, none⟩ = some (.slice C b.length c3) ∧ w'.cell? ⟨w.heap.size + 1, 2, none⟩ = some (.slice D m.length c4) ∧ w'.cell? ⟨w.heap.size + 1 + 1, 0, none⟩ = some (.string kc) ∧ w'.cell? ⟨w.heap.size + 1 + 1, 1, none⟩ = some (.slice E c.length c5) ∧ w'.cell? ⟨w.heap.size + 1 + 1, 2, none⟩ = some (.slice G n.length c6)) (by kernel_rfl) ?_ (fun hHeld => ?_)
          · exact ⟨K0.out, K1.out, K2.out, K3.out, K4.out, K5.out⟩
          refine wpAnyH_take (i := 0) (oi := { dst := some 128, op := Op.load 27 (Operand.tmp 4), type := 27, pos := "outright.go:91", after := #[], guard := none }) (v := ?_) rfl (by kernel_rfl) (by kernel_rfl) (by kernel_rfl) (fun _ _ _ h => h) (Or.inl ⟨by rfl, ?_⟩) (by assumption) ?_
          rotate_left
          · intro w_ hSw; (try dsimp only at hSw); go_simp; first | done | with_reducible rfl
          try simp only [Act.put, sA, s0, sS]
          refine wpAnyH_take (i := 2) (oi := { dst := some 130, op := Op.load 27 (Operand.tmp 5), type := 27, pos := "outright.go:91", after := #[], guard := none }) (v := ?_) rfl (by kernel_rfl) (by kernel_rfl) (by kernel_rfl) (fun _ _ _ h => h) (Or.inl ⟨by rfl, ?_⟩) (by assumption) ?_
          rotate_left
          · intro w_ hSw; (try dsimp only at hSw); go_simp; first | done | with_reducible rfl
          try simp only [Act.put, sA, s0, sS]
          refine wpAnyH_ready (rs := [1, 8]) (by kernel_rfl) (by simp) ?_
          refine AllReadyH.cons (o := { dst := some 129, op := Op.call { callee := Callee.value (Operand.func 10), args := #[Operand.tmp 128], argTypes := #[27] }, type := 27, pos := "outright.go:91", after := #[{ on := 0, ground := Ground.data }], guard := none }) rfl (fun K hK => ?_) (AllReadyH.cons (o := { dst := some 15, op := Op.alloc 27, type := 0, pos := "outright.go:91", after := #[], guard := none }) rfl (fun K hK => ?_) (AllReadyH.nil))
          · skip
            go_simp
            go_at_call 10
            refine (twinR_any kb C D c3 c4 b m _ (GR.Rd.below DD_1.out (by repeat (first | exact HR.out | refine bl_drewN ?_ _ | refine bl_drew ?_ | refine bl_alloc ?_ _))) (GR.Rd.below DL_1.out (by repeat (first | exact HR.out | refine bl_drewN ?_ _ | refine bl_drew ?_ | refine bl_alloc ?_ _))) sb sm).mono ?_
            rintro e q13_1 ⟨A_1, B_1, c_1, d_1, rfl, hra, hrl, hc1, _, hb2⟩
            have bx := bx_of (W := m16) hb2 (by repeat (first | exact HR.out | refine bl_drewN ?_ _ | refine bl_drew ?_ | refine bl_alloc ?_ _))
            have TD_1 := Lib.hid hra
            have TL_1 := Lib.hid hrl
            have TC_1 := hc1
            clear hra hrl
            have hs_1 : m16.heap.size ≤ q13_1.heap.size := (bl_then bx hb2).size
            replace HR := Lib.hid (bl_then bx hb2)
            clear hb2 bx
            refine hK.out _ _ ?_ (fun hHeld => ?_)
            · exact HKEEP.out _ (by repeat (first | exact HR.out | refine bl_drewN ?_ _ | refine bl_drew ?_ | refine bl_alloc ?_ _ | refine Below.setCell ?_ (by simp; try omega) _))
            clear hK K
            try simp only [Act.put, sA, s0, sS]
            refine wpAnyH_ready (rs := [3, 8]) (by kernel_rfl) (by simp) ?_
            refine AllReadyH.cons (o := { dst := some 131, op := Op.call { callee := Callee.value (Operand.func 10), args := #[Operand.tmp 130], argTypes := #[27] }, type := 27, pos := "outright.go:91", after := #[{ on := 2, ground := Ground.data }, { on := 1, ground := Ground.chain }], guard := none }) rfl (fun K hK => ?_) (AllReadyH.cons (o := { dst := some 15, op := Op.alloc 27, type := 0, pos := "outright.go:91", after := #[], guard := none }) rfl (fun K hK => ?_) (AllReadyH.nil))
            · skip
              go_simp
              go_at_call 10
              refine (twinR_any kc E G c5 c6 c n _ (GR.Rd.below DD_3.out (by repeat (first | exact HR.out | refine bl_drewN ?_ _ | refine bl_drew ?_ | refine bl_alloc ?_ _))) (GR.Rd.below DL_3.out (by repeat (first | exact HR.out | refine bl_drewN ?_ _ | refine bl_drew ?_ | refine bl_alloc ?_ _))) sc sn).mono ?_
              rintro e q13_3 ⟨A_3, B_3, c_3, d_3, rfl, hra, hrl, hc1, _, hb2⟩
              have bx := bx_of (W := m16) hb2 (by repeat (first | exact HR.out | refine bl_drewN ?_ _ | refine bl_drew ?_ | refine bl_alloc ?_ _))
              have br := bx_of (W := q13_1) hb2 (by repeat (first | exact Below.refl _ _ | refine bl_drewN ?_ _ | refine bl_drew ?_ | refine bl_alloc ?_ _))
              replace TD_1 := Lib.hid ((TD_1.out.below br).below hb2)
              replace TL_1 := Lib.hid ((TL_1.out.below br).below hb2)
              have TD_3 := Lib.hid hra
              have TL_3 := Lib.hid hrl
              have TC_3 := hc1
              clear hra hrl
              have hs_3 : m16.heap.size ≤ q13_3.heap.size := (bl_then bx hb2).size
              replace HR := Lib.hid (bl_then bx hb2)
              clear hb2 bx br
              refine hK.out _ _ ?_ (fun hHeld => ?_)
              · exact HKEEP.out _ (by repeat (first | exact HR.out | refine bl_drewN ?_ _ | refine bl_drew ?_ | refine bl_alloc ?_ _ | refine Below.setCell ?_ (by simp; try omega) _))
              clear hK K
              try simp only [Act.put, sA, s0, sS]
              refine wpAnyH_ready (rs := [4, 8]) (by kernel_rfl) (by simp) ?_
              refine AllReadyH.cons (o := { dst := some 132, op := Op.call { callee := Callee.value (Operand.func 12), args := #[Operand.tmp 129, Operand.tmp 131], argTypes := #[27, 27] }, type := 34, pos := "outright.go:91", after := #[{ on := 1, ground := Ground.data }, { on := 3, ground := Ground.data }, { on := 3, ground := Ground.chain }], guard := none }) rfl (fun K hK => ?_) (AllReadyH.cons (o := { dst := some 15, op := Op.alloc 27, type := 0, pos := "outright.go:91", after := #[], guard := none }) rfl (fun K hK => ?_) (AllReadyH.nil))
              · skip
                go_simp
                go_at_call 12
                refine (mrgO (J23) (M23) x23 (GR.Rd.below (w := q13_3) TD_1.out (by repeat (first | exact Below.refl _ _ | refine bl_drewN ?_ _ | refine bl_drew ?_ | refine bl_alloc ?_ _))) (GR.Rd.below (w := q13_3) TL_1.out (by repeat (first | exact Below.refl _ _ | refine bl_drewN ?_ _ | refine bl_drew ?_ | refine bl_alloc ?_ _))) (GR.Rd.below (w := q13_3) TD_3.out (by repeat (first | exact Below.refl _ _ | refine bl_drewN ?_ _ | refine bl_drew ?_ | refine bl_alloc ?_ _))) (GR.Rd.below (w := q13_3) TL_3.out (by repeat (first | exact Below.refl _ _ | refine bl_drewN ?_ _ | refine bl_drew ?_ | refine bl_alloc ?_ _))) rfl rfl rfl rfl TC_1 TC_3 HR2.out HR3.out E23k.out E23j.out E23m.out E23x.out).mono ?_
                rintro e q13_4 ⟨A_, B_, c_, d_, rfl, ho, hb2⟩
                have bx := bx_of (W := m16) hb2 (by repeat (first | exact HR.out | refine bl_drewN ?_ _ | refine bl_drew ?_ | refine bl_alloc ?_ _))
                have br := bx_of (W := q13_3) hb2 (by repeat (first | exact Below.refl _ _ | refine bl_drewN ?_ _ | refine bl_drew ?_ | refine bl_alloc ?_ _))
                replace TD_1 := Lib.hid ((TD_1.out.below br).below hb2)
                replace TL_1 := Lib.hid ((TL_1.out.below br).below hb2)
                replace TD_3 := Lib.hid ((TD_3.out.below br).below hb2)
                replace TL_3 := Lib.hid ((TL_3.out.below br).below hb2)
                have HO := Lib.hid (OwnS.base ho (B' := m16.heap.size) bx.size)
                clear ho
                have hs_4 : m16.heap.size ≤ q13_4.heap.size := (bl_then bx hb2).size
                replace HR := Lib.hid (bl_then bx hb2)
                clear hb2 bx br
                refine hK.out _ _ ?_ (fun hHeld => ?_)
                · exact HKEEP.out _ (by repeat (first | exact HR.out | refine bl_drewN ?_ _ | refine bl_drew ?_ | refine bl_alloc ?_ _ | refine Below.setCell ?_ (by simp; try omega) _))
                clear hK K
                try simp only [Act.put, sA, s0, sS]
                refine wpAnyH_take (i := 5) (oi := { dst := some 127, op := Op.move (Operand.tmp 132), type := 34, pos := "outright.go:91", after := #[{ on := 4, ground := Ground.data }], guard := none }) (v := ?_) rfl (by kernel_rfl) (by kernel_rfl) (by kernel_rfl) (fun _ _ _ h => h) (Or.inl ⟨by rfl, ?_⟩) (by assumption) ?_
                rotate_left
                · intro w_ hSw; (try dsimp only at hSw); go_simp; first | done | with_reducible rfl
                try simp only [Act.put, sA, s0, sS]
                refine wpAnyH_take (i := 6) (oi := { dst := some 133, op := Op.extract (Operand.tmp 127) 0, type := 27, pos := "outright.go:91", after := #[{ on := 5, ground := Ground.data }], guard := none }) (v := ?_) rfl (by kernel_rfl) (by kernel_rfl) (by kernel_rfl) (fun _ _ _ h => h) (Or.inl ⟨by rfl, ?_⟩) (by assumption) ?_
                rotate_left
                · intro w_ hSw; (try dsimp only at hSw); go_simp; first | done | with_reducible rfl
                try simp only [Act.put, sA, s0, sS]
                refine wpAnyH_take (i := 7) (oi := { dst := some 134, op := Op.extract (Operand.tmp 127) 1, type := 33, pos := "outright.go:91", after := #[{ on := 5, ground := Ground.data }, { on := 9, ground := Ground.gcOnly Departure.lateStores }], guard := none }) (v := ?_) rfl (by kernel_rfl) (by kernel_rfl) (by kernel_rfl) (fun _ _ _ h => h) (Or.inl ⟨by rfl, ?_⟩) (by assumption) ?_
                rotate_left
                · intro w_ hSw; (try dsimp only at hSw); go_simp; first | done | with_reducible rfl
                try simp only [Act.put, sA, s0, sS]
                refine wpAnyH_ready (rs := [8]) (by kernel_rfl) (by simp) ?_
                refine AllReadyH.cons (o := { dst := some 15, op := Op.alloc 27, type := 0, pos := "outright.go:91", after := #[], guard := none }) rfl (fun K hK => ?_) (AllReadyH.nil)
                go_simp
                skip
                refine hK.out _ _ ?_ (fun hHeld => ?_)
                · exact HKEEP.out _ (by repeat (first | exact HR.out | refine bl_drewN ?_ _ | refine bl_drew ?_ | refine bl_alloc ?_ _ | refine Below.setCell ?_ (by simp; try omega) _))
                clear hK K
                try simp only [Act.put, sA, s0, sS]
                refine wpAnyH_ready (rs := [9]) (by kernel_rfl) (by simp) ?_
                refine AllReadyH.cons (o := { dst := none, op := Op.store 27 (Operand.tmp 15) (Operand.tmp 133), type := 0, pos := "outright.go:91", after := #[{ on := 8, ground := Ground.data }, { on := 6, ground := Ground.data }, { on := 4, ground := Ground.chain }, { on := 0, ground := Ground.phase }, { on := 1, ground := Ground.phase }, { on := 2, ground := Ground.phase }, { on := 3, ground := Ground.phase }, { on := 4, ground := Ground.phase }, { on := 5, ground := Ground.phase }, { on := 6, ground := Ground.phase }, { on := 7, ground := Ground.textOnly Departure.lateStores }, { on := 8, ground := Ground.phase }], guard := none }) rfl (fun K hK => ?_) (AllReadyH.nil)
                go_simp
                skip
                refine hK.out _ _ ?_ (fun hHeld => ?_)
                · exact HKEEP.out _ (by repeat (first | exact HR.out | refine bl_drewN ?_ _ | refine bl_drew ?_ | refine bl_alloc ?_ _ | refine Below.setCell ?_ (by simp; try omega) _))
                clear hK K
                try simp only [Act.put, sA, s0, sS]
                refine wpAnyH_take (i := 10) (oi := { dst := some 16, op := Op.assign (Operand.tmp 134), type := 33, pos := "outright.go:91", after := #[{ on := 7, ground := Ground.data }, { on := 9, ground := Ground.chain }, { on := 0, ground := Ground.phase }, { on := 1, ground := Ground.phase }, { on := 2, ground := Ground.phase }, { on := 3, ground := Ground.phase }, { on := 4, ground := Ground.phase }, { on := 5, ground := Ground.phase }, { on := 6, ground := Ground.phase }, { on := 7, ground := Ground.phase }, { on := 8, ground := Ground.phase }, { on := 9, ground := Ground.phase }], guard := none }) (v := ?_) rfl (by kernel_rfl) (by kernel_rfl) (by kernel_rfl) (fun _ _ _ h => h) (Or.inl ⟨by rfl, ?_⟩) (by assumption) ?_
                rotate_left
                · intro w_ hSw; (try dsimp only at hSw); go_simp; first | done | with_reducible rfl
                try simp only [Act.put, sA, s0, sS]
                refine wpAnyH_done (by kernel_rfl) ?_ _
                go_wp2_with fail
                go_meet
                exact ⟨_, A_, B_, c_, d_, rfl, rfl, Lib.hid (GR.Blk.new _ _ _), Lib.hid (OwnS.below HO.out (by repeat (first | exact Below.refl _ _ | refine bl_drewN ?_ _ | refine bl_drew ?_ | refine bl_alloc ?_ _))), Lib.hid (by repeat (first | exact HR.out | refine bl_drewN ?_ _ | refine bl_drew ?_ | refine bl_alloc ?_ _))⟩
              · skip
                go_simp
                skip
                refine hK.out _ _ ?_ (fun hHeld => ?_)
                · exact HKEEP.out _ (by repeat (first | exact HR.out | refine bl_drewN ?_ _ | refine bl_drew ?_ | refine bl_alloc ?_ _ | refine Below.setCell ?_ (by simp; try omega) _))
                clear hK K
                try simp only [Act.put, sA, s0, sS]
                refine wpAnyH_ready (rs := [4]) (by kernel_rfl) (by simp) ?_
                refine AllReadyH.cons (o := { dst := some 132, op := Op.call { callee := Callee.value (Operand.func 12), args := #[Operand.tmp 129, Operand.tmp 131], argTypes := #[27, 27] }, type := 34, pos := "outright.go:91", after := #[{ on := 1, ground := Ground.data }, { on := 3, ground := Ground.data }, { on := 3, ground := Ground.chain }], guard := none }) rfl (fun K hK => ?_) (AllReadyH.nil)
                go_simp
                go_at_call 12
                refine (mrgO (J23) (M23) x23 (GR.Rd.below (w := q13_3) TD_1.out (by repeat (first | exact Below.refl _ _ | refine bl_drewN ?_ _ | refine bl_drew ?_ | refine bl_alloc ?_ _))) (GR.Rd.below (w := q13_3) TL_1.out (by repeat (first | exact Below.refl _ _ | refine bl_drewN ?_ _ | refine bl_drew ?_ | refine bl_alloc ?_ _))) (GR.Rd.below (w := q13_3) TD_3.out (by repeat (first | exact Below.refl _ _ | refine bl_drewN ?_ _ | refine bl_drew ?_ | refine bl_alloc ?_ _))) (GR.Rd.below (w := q13_3) TL_3.out (by repeat (first | exact Below.refl _ _ | refine bl_drewN ?_ _ | refine bl_drew ?_ | refine bl_alloc ?_ _))) rfl rfl rfl rfl TC_1 TC_3 HR2.out HR3.out E23k.out E23j.out E23m.out E23x.out).mono ?_
                rintro e q13_4 ⟨A_, B_, c_, d_, rfl, ho, hb2⟩
                have bx := bx_of (W := m16) hb2 (by repeat (first | exact HR.out | refine bl_drewN ?_ _ | refine bl_drew ?_ | refine bl_alloc ?_ _))
                have br := bx_of (W := q13_3) hb2 (by repeat (first | exact Below.refl _ _ | refine bl_drewN ?_ _ | refine bl_drew ?_ | refine bl_alloc ?_ _))
                replace TD_1 := Lib.hid ((TD_1.out.below br).below hb2)
                replace TL_1 := Lib.hid ((TL_1.out.below br).below hb2)
                replace TD_3 := Lib.hid ((TD_3.out.below br).below hb2)
                replace TL_3 := Lib.hid ((TL_3.out.below br).below hb2)
                have XG : Hid (GR.Blk q13_4 q13_3.heap.size 27 #[.string ⟨#[]⟩, .slice none 0 0, .slice none 0 0]) := Lib.hid (by
                 refine GR.Blk.below ?_ hb2 ?_
                 · exact new_at _ _ _ (by simp)
                 · simp)
                have HO := Lib.hid (OwnS.base ho (B' := m16.heap.size) bx.size)
                clear ho
                have e0 := XG.out.cell 0
                have e1 := XG.out.cell 1
                have e2 := XG.out.cell 2
                have f0 := XG.out.frozen 0
                have f1 := XG.out.frozen 1
                have f2 := XG.out.frozen 2
                have hs_4 : m16.heap.size ≤ q13_4.heap.size := (bl_then bx hb2).size
                replace HR := Lib.hid (bl_then bx hb2)
                clear hb2 bx br
                refine hK.out _ _ ?_ (fun hHeld => ?_)
                · exact HKEEP.out _ (by repeat (first | exact HR.out | refine bl_drewN ?_ _ | refine bl_drew ?_ | refine bl_alloc ?_ _ | refine Below.setCell ?_ (by simp; try omega) _))
                clear hK K
                try simp only [Act.put, sA, s0, sS]
                refine wpAnyH_take (i := 5) (oi := { dst := some 127, op := Op.move (Operand.tmp 132), type := 34, pos := "outright.go:91", after := #[{ on := 4, ground := Ground.data }], guard := none }) (v := ?_) rfl (by kernel_rfl) (by kernel_rfl) (by kernel_rfl) (fun _ _ _ h => h) (Or.inl ⟨by rfl, ?_⟩) (by assumption) ?_
                rotate_left
                · intro w_ hSw; (try dsimp only at hSw); go_simp; first | done | with_reducible rfl
                try simp only [Act.put, sA, s0, sS]
                refine wpAnyH_take (i := 6) (oi := { dst := some 133, op := Op.extract (Operand.tmp 127) 0, type := 27, pos := "outright.go:91", after := #[{ on := 5, ground := Ground.data }], guard := none }) (v := ?_) rfl (by kernel_rfl) (by kernel_rfl) (by kernel_rfl) (fun _ _ _ h => h) (Or.inl ⟨by rfl, ?_⟩) (by assumption) ?_
                rotate_left
                · intro w_ hSw; (try dsimp only at hSw); go_simp; first | done | with_reducible rfl
                try simp only [Act.put, sA, s0, sS]
                refine wpAnyH_take (i := 7) (oi := { dst := some 134, op := Op.extract (Operand.tmp 127) 1, type := 33, pos := "outright.go:91", after := #[{ on := 5, ground := Ground.data }, { on := 9, ground := Ground.gcOnly Departure.lateStores }], guard := none }) (v := ?_) rfl (by kernel_rfl) (by kernel_rfl) (by kernel_rfl) (fun _ _ _ h => h) (Or.inl ⟨by rfl, ?_⟩) (by assumption) ?_
                rotate_left
                · intro w_ hSw; (try dsimp only at hSw); go_simp; first | done | with_reducible rfl
                try simp only [Act.put, sA, s0, sS]
                refine wpAnyH_ready (rs := [9]) (by kernel_rfl) (by simp) ?_
                refine AllReadyH.cons (o := { dst := none, op := Op.store 27 (Operand.tmp 15) (Operand.tmp 133), type := 0, pos := "outright.go:91", after := #[{ on := 8, ground := Ground.data }, { on := 6, ground := Ground.data }, { on := 4, ground := Ground.chain }, { on := 0, ground := Ground.phase }, { on := 1, ground := Ground.phase }, { on := 2, ground := Ground.phase }, { on := 3, ground := Ground.phase }, { on := 4, ground := Ground.phase }, { on := 5, ground := Ground.phase }, { on := 6, ground := Ground.phase }, { on := 7, ground := Ground.textOnly Departure.lateStores }, { on := 8, ground := Ground.phase }], guard := none }) rfl (fun K hK => ?_) (AllReadyH.nil)
                go_simp
                skip
                refine hK.out _ _ ?_ (fun hHeld => ?_)
                · exact HKEEP.out _ (by repeat (first | exact HR.out | refine bl_drewN ?_ _ | refine bl_drew ?_ | refine bl_alloc ?_ _ | refine Below.setCell ?_ (by simp; try omega) _))
                clear hK K
                try simp only [Act.put, sA, s0, sS]
                refine wpAnyH_take (i := 10) (oi := { dst := some 16, op := Op.assign (Operand.tmp 134), type := 33, pos := "outright.go:91", after := #[{ on := 7, ground := Ground.data }, { on := 9, ground := Ground.chain }, { on := 0, ground := Ground.phase }, { on := 1, ground := Ground.phase }, { on := 2, ground := Ground.phase }, { on := 3, ground := Ground.phase }, { on := 4, ground := Ground.phase }, { on := 5, ground := Ground.phase }, { on := 6, ground := Ground.phase }, { on := 7, ground := Ground.phase }, { on := 8, ground := Ground.phase }, { on := 9, ground := Ground.phase }], guard := none }) (v := ?_) rfl (by kernel_rfl) (by kernel_rfl) (by kernel_rfl) (fun _ _ _ h => h) (Or.inl ⟨by rfl, ?_⟩) (by assumption) ?_
                rotate_left
                · intro w_ hSw; (try dsimp only at hSw); go_simp; first | done | with_reducible rfl
                try simp only [Act.put, sA, s0, sS]
                refine wpAnyH_done (by kernel_rfl) ?_ _
                clear e0 e1 e2 f0 f1 f2
                go_wp2_with fail
                go_meet
                exact ⟨_, A_, B_, c_, d_, rfl, rfl, Lib.hid (ob_put HO.out XG.out).2, Lib.hid (ob_put HO.out XG.out).1, Lib.hid (by repeat (first | exact HR.out | refine Below.setCell ?_ (by simp; try omega) _))⟩
            · skip
              go_simp
              skip
              refine hK.out _ _ ?_ (fun hHeld => ?_)
              · exact HKEEP.out _ (by repeat (first | exact HR.out | refine bl_drewN ?_ _ | refine bl_drew ?_ | refine bl_alloc ?_ _ | refine Below.setCell ?_ (by simp; try omega) _))
              clear hK K
              try simp only [Act.put, sA, s0, sS]
              refine wpAnyH_ready (rs := [3]) (by kernel_rfl) (by simp) ?_
              refine AllReadyH.cons (o := { dst := some 131, op := Op.call { callee := Callee.value (Operand.func 10), args := #[Operand.tmp 130], argTypes := #[27] }, type := 27, pos := "outright.go:91", after := #[{ on := 2, ground := Ground.data }, { on := 1, ground := Ground.chain }], guard := none }) rfl (fun K hK => ?_) (AllReadyH.nil)
              go_simp
              go_at_call 10
              refine (twinR_any kc E G c5 c6 c n _ (GR.Rd.below DD_3.out (by repeat (first | exact HR.out | refine bl_drewN ?_ _ | refine bl_drew ?_ | refine bl_alloc ?_ _))) (GR.Rd.below DL_3.out (by repeat (first | exact HR.out | refine bl_drewN ?_ _ | refine bl_drew ?_ | refine bl_alloc ?_ _))) sc sn).mono ?_
              rintro e q13_3 ⟨A_3, B_3, c_3, d_3, rfl, hra, hrl, hc1, _, hb2⟩
              have bx := bx_of (W := m16) hb2 (by repeat (first | exact HR.out | refine bl_drewN ?_ _ | refine bl_drew ?_ | refine bl_alloc ?_ _))
              have br := bx_of (W := q13_1) hb2 (by repeat (first | exact Below.refl _ _ | refine bl_drewN ?_ _ | refine bl_drew ?_ | refine bl_alloc ?_ _))
              replace TD_1 := Lib.hid ((TD_1.out.below br).below hb2)
              replace TL_1 := Lib.hid ((TL_1.out.below br).below hb2)
              have TD_3 := Lib.hid hra
              have TL_3 := Lib.hid hrl
              have TC_3 := hc1
              clear hra hrl
              have XG : Hid (GR.Blk q13_3 q13_1.heap.size 27 #[.string ⟨#[]⟩, .slice none 0 0, .slice none 0 0]) := Lib.hid (by
               refine GR.Blk.below ?_ hb2 ?_
               · exact new_at _ _ _ (by simp)
               · simp)
              have hs_3 : m16.heap.size ≤ q13_3.heap.size := (bl_then bx hb2).size
              replace HR := Lib.hid (bl_then bx hb2)
              clear hb2 bx br
              refine hK.out _ _ ?_ (fun hHeld => ?_)
              · exact HKEEP.out _ (by repeat (first | exact HR.out | refine bl_drewN ?_ _ | refine bl_drew ?_ | refine bl_alloc ?_ _ | refine Below.setCell ?_ (by simp; try omega) _))
              clear hK K
              try simp only [Act.put, sA, s0, sS]
              refine wpAnyH_ready (rs := [4]) (by kernel_rfl) (by simp) ?_
              refine AllReadyH.cons (o := { dst := some 132, op := Op.call { callee := Callee.value (Operand.func 12), args := #[Operand.tmp 129, Operand.tmp 131], argTypes := #[27, 27] }, type := 34, pos := "outright.go:91", after := #[{ on := 1, ground := Ground.data }, { on := 3, ground := Ground.data }, { on := 3, ground := Ground.chain }], guard := none }) rfl (fun K hK => ?_) (AllReadyH.nil)
              go_simp
              go_at_call 12
              refine (mrgO (J23) (M23) x23 (GR.Rd.below (w := q13_3) TD_1.out (by repeat (first | exact Below.refl _ _ | refine bl_drewN ?_ _ | refine bl_drew ?_ | refine bl_alloc ?_ _))) (GR.Rd.below (w := q13_3) TL_1.out (by repeat (first | exact Below.refl _ _ | refine bl_drewN ?_ _ | refine bl_drew ?_ | refine bl_alloc ?_ _))) (GR.Rd.below (w := q13_3) TD_3.out (by repeat (first | exact Below.refl _ _ | refine bl_drewN ?_ _ | refine bl_drew ?_ | refine bl_alloc ?_ _))) (GR.Rd.below (w := q13_3) TL_3.out (by repeat (first | exact Below.refl _ _ | refine bl_drewN ?_ _ | refine bl_drew ?_ | refine bl_alloc ?_ _))) rfl rfl rfl rfl TC_1 TC_3 HR2.out HR3.out E23k.out E23j.out E23m.out E23x.out).mono ?_
              rintro e q13_4 ⟨A_, B_, c_, d_, rfl, ho, hb2⟩
              have bx := bx_of (W := m16) hb2 (by repeat (first | exact HR.out | refine bl_drewN ?_ _ | refine bl_drew ?_ | refine bl_alloc ?_ _))
              have br := bx_of (W := q13_3) hb2 (by repeat (first | exact Below.refl _ _ | refine bl_drewN ?_ _ | refine bl_drew ?_ | refine bl_alloc ?_ _))
              replace TD_1 := Lib.hid ((TD_1.out.below br).below hb2)
              replace TL_1 := Lib.hid ((TL_1.out.below br).below hb2)
              replace TD_3 := Lib.hid ((TD_3.out.below br).below hb2)
              replace TL_3 := Lib.hid ((TL_3.out.below br).below hb2)
              replace XG := Lib.hid (blk_up XG.out br hb2)
              have HO := Lib.hid (OwnS.base ho (B' := m16.heap.size) bx.size)
              clear ho
              have e0 := XG.out.cell 0
              have e1 := XG.out.cell 1
              have e2 := XG.out.cell 2
              have f0 := XG.out.frozen 0
              have f1 := XG.out.frozen 1
              have f2 := XG.out.frozen 2
              have hs_4 : m16.heap.size ≤ q13_4.heap.size := (bl_then bx hb2).size
              replace HR := Lib.hid (bl_then bx hb2)
              clear hb2 bx br
              refine hK.out _ _ ?_ (fun hHeld => ?_)
              · exact HKEEP.out _ (by repeat (first | exact HR.out | refine bl_drewN ?_ _ | refine bl_drew ?_ | refine bl_alloc ?_ _ | refine Below.setCell ?_ (by simp; try omega) _))
              clear hK K
              try simp only [Act.put, sA, s0, sS]
              refine wpAnyH_take (i := 5) (oi := { dst := some 127, op := Op.move (Operand.tmp 132), type := 34, pos := "outright.go:91", after := #[{ on := 4, ground := Ground.data }], guard := none }) (v := ?_) rfl (by kernel_rfl) (by kernel_rfl) (by kernel_rfl) (fun _ _ _ h => h) (Or.inl ⟨by rfl, ?_⟩) (by assumption) ?_
              rotate_left
              · intro w_ hSw; (try dsimp only at hSw); go_simp; first | done | with_reducible rfl
              try simp only [Act.put, sA, s0, sS]
              refine wpAnyH_take (i := 6) (oi := { dst := some 133, op := Op.extract (Operand.tmp 127) 0, type := 27, pos := "outright.go:91", after := #[{ on := 5, ground := Ground.data }], guard := none }) (v := ?_) rfl (by kernel_rfl) (by kernel_rfl) (by kernel_rfl) (fun _ _ _ h => h) (Or.inl ⟨by rfl, ?_⟩) (by assumption) ?_
              rotate_left
              · intro w_ hSw; (try dsimp only at hSw); go_simp; first | done | with_reducible rfl
              try simp only [Act.put, sA, s0, sS]
              refine wpAnyH_take (i := 7) (oi := { dst := some 134, op := Op.extract (Operand.tmp 127) 1, type := 33, pos := "outright.go:91", after := #[{ on := 5, ground := Ground.data }, { on := 9, ground := Ground.gcOnly Departure.lateStores }], guard := none }) (v := ?_) rfl (by kernel_rfl) (by kernel_rfl) (by kernel_rfl) (fun _ _ _ h => h) (Or.inl ⟨by rfl, ?_⟩) (by assumption) ?_
              rotate_left
              · intro w_ hSw; (try dsimp only at hSw); go_simp; first | done | with_reducible rfl
              try simp only [Act.put, sA, s0, sS]
              refine wpAnyH_ready (rs := [9]) (by kernel_rfl) (by simp) ?_
              refine AllReadyH.cons (o := { dst := none, op := Op.store 27 (Operand.tmp 15) (Operand.tmp 133), type := 0, pos := "outright.go:91", after := #[{ on := 8, ground := Ground.data }, { on := 6, ground := Ground.data }, { on := 4, ground := Ground.chain }, { on := 0, ground := Ground.phase }, { on := 1, ground := Ground.phase }, { on := 2, ground := Ground.phase }, { on := 3, ground := Ground.phase }, { on := 4, ground := Ground.phase }, { on := 5, ground := Ground.phase }, { on := 6, ground := Ground.phase }, { on := 7, ground := Ground.textOnly Departure.lateStores }, { on := 8, ground := Ground.phase }], guard := none }) rfl (fun K hK => ?_) (AllReadyH.nil)
              go_simp
              skip
              refine hK.out _ _ ?_ (fun hHeld => ?_)
              · exact HKEEP.out _ (by repeat (first | exact HR.out | refine bl_drewN ?_ _ | refine bl_drew ?_ | refine bl_alloc ?_ _ | refine Below.setCell ?_ (by simp; try omega) _))
              clear hK K
              try simp only [Act.put, sA, s0, sS]
              refine wpAnyH_take (i := 10) (oi := { dst := some 16, op := Op.assign (Operand.tmp 134), type := 33, pos := "outright.go:91", after := #[{ on := 7, ground := Ground.data }, { on := 9, ground := Ground.chain }, { on := 0, ground := Ground.phase }, { on := 1, ground := Ground.phase }, { on := 2, ground := Ground.phase }, { on := 3, ground := Ground.phase }, { on := 4, ground := Ground.phase }, { on := 5, ground := Ground.phase }, { on := 6, ground := Ground.phase }, { on := 7, ground := Ground.phase }, { on := 8, ground := Ground.phase }, { on := 9, ground := Ground.phase }], guard := none }) (v := ?_) rfl (by kernel_rfl) (by kernel_rfl) (by kernel_rfl) (fun _ _ _ h => h) (Or.inl ⟨by rfl, ?_⟩) (by assumption) ?_
              rotate_left
              · intro w_ hSw; (try dsimp only at hSw); go_simp; first | done | with_reducible rfl
              try simp only [Act.put, sA, s0, sS]
              refine wpAnyH_done (by kernel_rfl) ?_ _
              clear e0 e1 e2 f0 f1 f2
              go_wp2_with fail
              go_meet
              exact ⟨_, A_, B_, c_, d_, rfl, rfl, Lib.hid (ob_put HO.out XG.out).2, Lib.hid (ob_put HO.out XG.out).1, Lib.hid (by repeat (first | exact HR.out | refine Below.setCell ?_ (by simp; try omega) _))⟩
          · skip
            go_simp
            skip
            refine hK.out _ _ ?_ (fun hHeld => ?_)
            · exact HKEEP.out _ (by repeat (first | exact HR.out | refine bl_drewN ?_ _ | refine bl_drew ?_ | refine bl_alloc ?_ _ | refine Below.setCell ?_ (by simp; try omega) _))
            clear hK K
            try simp only [Act.put, sA, s0, sS]
            refine wpAnyH_ready (rs := [1]) (by kernel_rfl) (by simp) ?_
            refine AllReadyH.cons (o := { dst := some 129, op := Op.call { callee := Callee.value (Operand.func 10), args := #[Operand.tmp 128], argTypes := #[27] }, type := 27, pos := "outright.go:91", after := #[{ on := 0, ground := Ground.data }], guard := none }) rfl (fun K hK => ?_) (AllReadyH.nil)
            go_simp
            go_at_call 10
            refine (twinR_any kb C D c3 c4 b m _ (GR.Rd.below DD_1.out (by repeat (first | exact HR.out | refine bl_drewN ?_ _ | refine bl_drew ?_ | refine bl_alloc ?_ _))) (GR.Rd.below DL_1.out (by repeat (first | exact HR.out | refine bl_drewN ?_ _ | refine bl_drew ?_ | refine bl_alloc ?_ _))) sb sm).mono ?_
            rintro e q13_1 ⟨A_1, B_1, c_1, d_1, rfl, hra, hrl, hc1, _, hb2⟩
            have bx := bx_of (W := m16) hb2 (by repeat (first | exact HR.out | refine bl_drewN ?_ _ | refine bl_drew ?_ | refine bl_alloc ?_ _))
            have TD_1 := Lib.hid hra
            have TL_1 := Lib.hid hrl
            have TC_1 := hc1
            clear hra hrl
            have XG : Hid (GR.Blk q13_1 m16.heap.size 27 #[.string ⟨#[]⟩, .slice none 0 0, .slice none 0 0]) := Lib.hid (by
             refine GR.Blk.below ?_ hb2 ?_
             · exact new_at _ _ _ (by simp)
             · simp)
            have hs_1 : m16.heap.size ≤ q13_1.heap.size := (bl_then bx hb2).size
            replace HR := Lib.hid (bl_then bx hb2)
            clear hb2 bx
            refine hK.out _ _ ?_ (fun hHeld => ?_)
            · exact HKEEP.out _ (by repeat (first | exact HR.out | refine bl_drewN ?_ _ | refine bl_drew ?_ | refine bl_alloc ?_ _ | refine Below.setCell ?_ (by simp; try omega) _))
            clear hK K
            try simp only [Act.put, sA, s0, sS]
            refine wpAnyH_ready (rs := [3]) (by kernel_rfl) (by simp) ?_
            refine AllReadyH.cons (o := { dst := some 131, op := Op.call { callee := Callee.value (Operand.func 10), args := #[Operand.tmp 130], argTypes := #[27] }, type := 27, pos := "outright.go:91", after := #[{ on := 2, ground := Ground.data }, { on := 1, ground := Ground.chain }], guard := none }) rfl (fun K hK => ?_) (AllReadyH.nil)
            go_simp
            go_at_call 10
            refine (twinR_any kc E G c5 c6 c n _ (GR.Rd.below DD_3.out (by repeat (first | exact HR.out | refine bl_drewN ?_ _ | refine bl_drew ?_ | refine bl_alloc ?_ _))) (GR.Rd.below DL_3.out (by repeat (first | exact HR.out | refine bl_drewN ?_ _ | refine bl_drew ?_ | refine bl_alloc ?_ _))) sc sn).mono ?_
            rintro e q13_3 ⟨A_3, B_3, c_3, d_3, rfl, hra, hrl, hc1, _, hb2⟩
            have bx := bx_of (W := m16) hb2 (by repeat (first | exact HR.out | refine bl_drewN ?_ _ | refine bl_drew ?_ | refine bl_alloc ?_ _))
            have br := bx_of (W := q13_1) hb2 (by repeat (first | exact Below.refl _ _ | refine bl_drewN ?_ _ | refine bl_drew ?_ | refine bl_alloc ?_ _))
            replace TD_1 := Lib.hid ((TD_1.out.below br).below hb2)
            replace TL_1 := Lib.hid ((TL_1.out.below br).below hb2)
            have TD_3 := Lib.hid hra
            have TL_3 := Lib.hid hrl
            have TC_3 := hc1
            clear hra hrl
            replace XG := Lib.hid (blk_up XG.out br hb2)
            have hs_3 : m16.heap.size ≤ q13_3.heap.size := (bl_then bx hb2).size
            replace HR := Lib.hid (bl_then bx hb2)
            clear hb2 bx br
            refine hK.out _ _ ?_ (fun hHeld => ?_)
            · exact HKEEP.out _ (by repeat (first | exact HR.out | refine bl_drewN ?_ _ | refine bl_drew ?_ | refine bl_alloc ?_ _ | refine Below.setCell ?_ (by simp; try omega) _))
            clear hK K
            try simp only [Act.put, sA, s0, sS]
            refine wpAnyH_ready (rs := [4]) (by kernel_rfl) (by simp) ?_
            refine AllReadyH.cons (o := { dst := some 132, op := Op.call { callee := Callee.value (Operand.func 12), args := #[Operand.tmp 129, Operand.tmp 131], argTypes := #[27, 27] }, type := 34, pos := "outright.go:91", after := #[{ on := 1, ground := Ground.data }, { on := 3, ground := Ground.data }, { on := 3, ground := Ground.chain }], guard := none }) rfl (fun K hK => ?_) (AllReadyH.nil)
            go_simp
            go_at_call 12
            refine (mrgO (J23) (M23) x23 (GR.Rd.below (w := q13_3) TD_1.out (by repeat (first | exact Below.refl _ _ | refine bl_drewN ?_ _ | refine bl_drew ?_ | refine bl_alloc ?_ _))) (GR.Rd.below (w := q13_3) TL_1.out (by repeat (first | exact Below.refl _ _ | refine bl_drewN ?_ _ | refine bl_drew ?_ | refine bl_alloc ?_ _))) (GR.Rd.below (w := q13_3) TD_3.out (by repeat (first | exact Below.refl _ _ | refine bl_drewN ?_ _ | refine bl_drew ?_ | refine bl_alloc ?_ _))) (GR.Rd.below (w := q13_3) TL_3.out (by repeat (first | exact Below.refl _ _ | refine bl_drewN ?_ _ | refine bl_drew ?_ | refine bl_alloc ?_ _))) rfl rfl rfl rfl TC_1 TC_3 HR2.out HR3.out E23k.out E23j.out E23m.out E23x.out).mono ?_
            rintro e q13_4 ⟨A_, B_, c_, d_, rfl, ho, hb2⟩
            have bx := bx_of (W := m16) hb2 (by repeat (first | exact HR.out | refine bl_drewN ?_ _ | refine bl_drew ?_ | refine bl_alloc ?_ _))
            have br := bx_of (W := q13_3) hb2 (by repeat (first | exact Below.refl _ _ | refine bl_drewN ?_ _ | refine bl_drew ?_ | refine bl_alloc ?_ _))
            replace TD_1 := Lib.hid ((TD_1.out.below br).below hb2)
            replace TL_1 := Lib.hid ((TL_1.out.below br).below hb2)
            replace TD_3 := Lib.hid ((TD_3.out.below br).below hb2)
            replace TL_3 := Lib.hid ((TL_3.out.below br).below hb2)
            replace XG := Lib.hid (blk_up XG.out br hb2)
            have HO := Lib.hid (OwnS.base ho (B' := m16.heap.size) bx.size)
            clear ho
            have e0 := XG.out.cell 0
            have e1 := XG.out.cell 1
            have e2 := XG.out.cell 2
            have f0 := XG.out.frozen 0
            have f1 := XG.out.frozen 1
            have f2 := XG.out.frozen 2
            have hs_4 : m16.heap.size ≤ q13_4.heap.size := (bl_then bx hb2).size
            replace HR := Lib.hid (bl_then bx hb2)
            clear hb2 bx br
            refine hK.out _ _ ?_ (fun hHeld => ?_)
            · exact HKEEP.out _ (by repeat (first | exact HR.out | refine bl_drewN ?_ _ | refine bl_drew ?_ | refine bl_alloc ?_ _ | refine Below.setCell ?_ (by simp; try omega) _))
            clear hK K
            try simp only [Act.put, sA, s0, sS]
            refine wpAnyH_take (i := 5) (oi := { dst := some 127, op := Op.move (Operand.tmp 132), type := 34, pos := "outright.go:91", after := #[{ on := 4, ground := Ground.data }], guard := none }) (v := ?_) rfl (by kernel_rfl) (by kernel_rfl) (by kernel_rfl) (fun _ _ _ h => h) (Or.inl ⟨by rfl, ?_⟩) (by assumption) ?_
            rotate_left
            · intro w_ hSw; (try dsimp only at hSw); go_simp; first | done | with_reducible rfl
            try simp only [Act.put, sA, s0, sS]
            refine wpAnyH_take (i := 6) (oi := { dst := some 133, op := Op.extract (Operand.tmp 127) 0, type := 27, pos := "outright.go:91", after := #[{ on := 5, ground := Ground.data }], guard := none }) (v := ?_) rfl (by kernel_rfl) (by kernel_rfl) (by kernel_rfl) (fun _ _ _ h => h) (Or.inl ⟨by rfl, ?_⟩) (by assumption) ?_
            rotate_left
            · intro w_ hSw; (try dsimp only at hSw); go_simp; first | done | with_reducible rfl
            try simp only [Act.put, sA, s0, sS]
            refine wpAnyH_take (i := 7) (oi := { dst := some 134, op := Op.extract (Operand.tmp 127) 1, type := 33, pos := "outright.go:91", after := #[{ on := 5, ground := Ground.data }, { on := 9, ground := Ground.gcOnly Departure.lateStores }], guard := none }) (v := ?_) rfl (by kernel_rfl) (by kernel_rfl) (by kernel_rfl) (fun _ _ _ h => h) (Or.inl ⟨by rfl, ?_⟩) (by assumption) ?_
            rotate_left
            · intro w_ hSw; (try dsimp only at hSw); go_simp; first | done | with_reducible rfl
            try simp only [Act.put, sA, s0, sS]
            refine wpAnyH_ready (rs := [9]) (by kernel_rfl) (by simp) ?_
            refine AllReadyH.cons (o := { dst := none, op := Op.store 27 (Operand.tmp 15) (Operand.tmp 133), type := 0, pos := "outright.go:91", after := #[{ on := 8, ground := Ground.data }, { on := 6, ground := Ground.data }, { on := 4, ground := Ground.chain }, { on := 0, ground := Ground.phase }, { on := 1, ground := Ground.phase }, { on := 2, ground := Ground.phase }, { on := 3, ground := Ground.phase }, { on := 4, ground := Ground.phase }, { on := 5, ground := Ground.phase }, { on := 6, ground := Ground.phase }, { on := 7, ground := Ground.textOnly Departure.lateStores }, { on := 8, ground := Ground.phase }], guard := none }) rfl (fun K hK => ?_) (AllReadyH.nil)
            go_simp
            skip
            refine hK.out _ _ ?_ (fun hHeld => ?_)
            · exact HKEEP.out _ (by repeat (first | exact HR.out | refine bl_drewN ?_ _ | refine bl_drew ?_ | refine bl_alloc ?_ _ | refine Below.setCell ?_ (by simp; try omega) _))
            clear hK K
            try simp only [Act.put, sA, s0, sS]
            refine wpAnyH_take (i := 10) (oi := { dst := some 16, op := Op.assign (Operand.tmp 134), type := 33, pos := "outright.go:91", after := #[{ on := 7, ground := Ground.data }, { on := 9, ground := Ground.chain }, { on := 0, ground := Ground.phase }, { on := 1, ground := Ground.phase }, { on := 2, ground := Ground.phase }, { on := 3, ground := Ground.phase }, { on := 4, ground := Ground.phase }, { on := 5, ground := Ground.phase }, { on := 6, ground := Ground.phase }, { on := 7, ground := Ground.phase }, { on := 8, ground := Ground.phase }, { on := 9, ground := Ground.phase }], guard := none }) (v := ?_) rfl (by kernel_rfl) (by kernel_rfl) (by kernel_rfl) (fun _ _ _ h => h) (Or.inl ⟨by rfl, ?_⟩) (by assumption) ?_
            rotate_left
            · intro w_ hSw; (try dsimp only at hSw); go_simp; first | done | with_reducible rfl
            try simp only [Act.put, sA, s0, sS]
            refine wpAnyH_done (by kernel_rfl) ?_ _
            clear e0 e1 e2 f0 f1 f2
            go_wp2_with fail
            go_meet
            exact ⟨_, A_, B_, c_, d_, rfl, rfl, Lib.hid (ob_put HO.out XG.out).2, Lib.hid (ob_put HO.out XG.out).1, Lib.hid (by repeat (first | exact HR.out | refine Below.setCell ?_ (by simp; try omega) _))⟩
        case rest =>
         obtain ⟨g23, A23, B23, c23, d23, rfl, rfl, BZ, BO, BC⟩ := hcut
         obtain ⟨m18, hw_⟩ : ∃ x : World, x = wc := ⟨_, rfl⟩
         subst hw_
         have F39 := Lib.hid (F38.out.below BC.out)
         clear F38
         have F40 := Lib.hid (HS.addB F39.out (g := g23) (t := 27) (cs := #[.string k23, .slice A23 (J23).length c23, .slice B23 (M23).length d23]) (BZ.out))
         clear F39
         have F41 := Lib.hid (F40.out.addO (BO.out))
         clear F40
         replace BB := Lib.hid (bl_then BB.out BC.out)
         clear BZ BO BC
         by_cases h12 : x12 = 0
         · have H12 := Lib.hid h12
           obtain ⟨hX0, hsame, hchk, hkk, hl1, hl2⟩ := EYES.out h12
           have HSM := Lib.hid hsame
           have HCK := Lib.hid hchk
           have kk : (k12.toList == ka.toList) = true := by rw [hkk]; simp
           have kk2 : (k12.toList != ka.toList) = false := by rw [hkk]; simp
           have f1 : (x12 == 0) = true := by simpa using h12
           have f2 : (x12 != 0) = false := by simpa using h12
           have f3 : (x21 == 0) = true := by simpa using EIF.out.1 h12
           have f4 : decide (x12 = 0) = true := decide_eq_true h12
           have f5 : decide (x21 = 0) = true := decide_eq_true (EIF.out.1 h12)
           have lm : decide ((J12.length : Int) < if a.length < b.length then (b.length : Int) else (a.length : Int)) = false := decide_eq_false (by split <;> omega)
           have lm2 : ¬ ((J12.length : Int) < if a.length < b.length then (b.length : Int) else (a.length : Int)) := by split <;> omega
           clear hsame hchk hkk hl1 hl2 h12 hX0
           by_cases h23 : x23 = 0
           · have H23 := Lib.hid h23
             have i1 : (x23 != 0) = false := by simpa using h23
             have i2 : decide (x23 = 0) = true := decide_eq_true h23
             clear h23
             go_upto_region 16 with fail
             go_cut [17, 18] from 141 (fun s1 s2 wx => ∃ (g : Nat) (A_ B_ : Option Addr) (c_ d_ : Nat), s1 = .pointer (some ⟨g, 0, none⟩) ∧ s2 = .int .i64 xs ∧ Hid (GR.Blk wx g 27 #[.string ks, .slice A_ (Js).length c_, .slice B_ (Ms).length d_]) ∧ Hid (OwnS wx m18.heap.size (.slice A_ (Js).length c_) (.slice B_ (Ms).length d_) Js Ms) ∧ Hid (Below m18.heap.size m18 wx))
             case first =>
              as_aux_lemma =>
               have K0 : Hid (m18.cell? ⟨g12, 0, none⟩ = some (.string k12)) := Lib.hid ((F41.out.blk 9 rfl).cell 0)
               have K1 : Hid (m18.cell? ⟨g12, 1, none⟩ = some (.slice A12 (J12).length c12)) := Lib.hid ((F41.out.blk 9 rfl).cell 1)
               have K2 : Hid (m18.cell? ⟨g12, 2, none⟩ = some (.slice B12 (M12).length d12)) := Lib.hid ((F41.out.blk 9 rfl).cell 2)
               have p12_lt : g12 < m18.heap.size := (F41.out.blk 9 rfl).lt
               have K3 : Hid (m18.cell? ⟨w.heap.size + 1 + 1, 0, none⟩ = some (.string kc)) := Lib.hid ((F41.out.blk 16 rfl).cell 0)
               have K4 : Hid (m18.cell? ⟨w.heap.size + 1 + 1, 1, none⟩ = some (.slice E c.length c5)) := Lib.hid ((F41.out.blk 16 rfl).cell 1)
               have K5 : Hid (m18.cell? ⟨w.heap.size + 1 + 1, 2, none⟩ = some (.slice G n.length c6)) := Lib.hid ((F41.out.blk 16 rfl).cell 2)
               have pc_lt : w.heap.size + 1 + 1 < m18.heap.size := (F41.out.blk 16 rfl).lt
               have DD_2 := Lib.hid (F41.out.rd 11 rfl)
               have DL_2 := Lib.hid (F41.out.rd 10 rfl)
               have ELd := Lib.hid ((F41.out.own 8 rfl).d.rd ja12).2.2
               have ELl := Lib.hid ((F41.out.own 8 rfl).s.rd jl12).2.2
               have HR := Lib.hid (Below.refl m18.heap.size m18)
               have HKEEP : Hid (∀ w', Below m18.heap.size m18 w' → (w'.cell? ⟨g12, 0, none⟩ = some (.string k12) ∧ w'.cell? ⟨g12, 1, none⟩ = some (.slice A12 (J12).length c12) ∧ w'.cell? ⟨g12, 2, none⟩ = some (.slice B12 (M12).length d12) ∧ w'.cell? ⟨w.heap.size + 1 + 1, 0, none⟩ = some (.string kc) ∧ w'.cell? ⟨w.heap.size + 1 + 1, 1, none⟩ = some (.slice E c.length c5) ∧ w'.cell? ⟨w.heap.size + 1 + 1, 2, none⟩ = some (.slice G n.length c6))) := Lib.hid (fun w' hb => ⟨(Below.cell (p := ⟨g12, 0, none⟩) hb (World.block_lt_of_cell? m18 _ K0.out)).trans K0.out, (Below.cell (p := ⟨g12, 1, none⟩) hb (World.block_lt_of_cell? m18 _ K1.out)).trans K1.out, (Below.cell (p := ⟨g12, 2, none⟩) hb (World.block_lt_of_cell? m18 _ K2.out)).trans K2.out, (Below.cell (p := ⟨w.heap.size + 1 + 1, 0, none⟩) hb (World.block_lt_of_cell? m18 _ K3.out)).trans K3.out, (Below.cell (p := ⟨w.heap.size + 1 + 1, 1, none⟩) hb (World.block_lt_of_cell? m18 _ K4.out)).trans K4.out, (Below.cell (p := ⟨w.heap.size + 1 + 1, 2, none⟩) hb (World.block_lt_of_cell? m18 _ K5.out)).trans K5.out⟩)
               refine wp_region_held_drew (S := fun w' => w'.cell? ⟨g12, 0, none⟩ = some (.string k12) ∧ w'.cell? ⟨g12, 1, none⟩ = some (.slice A12 (J12).length c12) ∧ w'.cell? ⟨g12, 2, none⟩ = some (.slice B12 (M12).length d12) ∧ w'.cell? ⟨w.heap.size + 1 + 1, 0, none⟩ = some (.string kc) ∧ w'.cell? ⟨w.heap.size + 1 + 1, 1, none⟩ = some (.slice E c.length c5) ∧ w'.cell? ⟨w.heap.size + 1 + 1, 2, none⟩ = some (.slice G n.length c6)) (by kernel_rfl) ?_ (fun hHeld => ?_)
               · exact ⟨K0.out, K1.out, K2.out, K3.out, K4.out, K5.out⟩
               refine wpAnyH_take (i := 0) (oi := { dst := some 142, op := Op.load 27 (Operand.tmp 7), type := 27, pos := "outright.go:95", after := #[], guard := none }) (v := ?_) rfl (by kernel_rfl) (by kernel_rfl) (by kernel_rfl) (fun _ _ _ h => h) (Or.inl ⟨by rfl, ?_⟩) (by assumption) ?_
               rotate_left
               · intro w_ hSw; (try dsimp only at hSw); go_simp; first | done | with_reducible rfl
               try simp only [Act.put, sA, s0, sS]
               refine wpAnyH_take (i := 1) (oi := { dst := some 143, op := Op.load 27 (Operand.tmp 5), type := 27, pos := "outright.go:95", after := #[], guard := none }) (v := ?_) rfl (by kernel_rfl) (by kernel_rfl) (by kernel_rfl) (fun _ _ _ h => h) (Or.inl ⟨by rfl, ?_⟩) (by assumption) ?_
               rotate_left
               · intro w_ hSw; (try dsimp only at hSw); go_simp; first | done | with_reducible rfl
               try simp only [Act.put, sA, s0, sS]
               refine wpAnyH_ready (rs := [2, 7]) (by kernel_rfl) (by simp) ?_
               refine AllReadyH.cons (o := { dst := some 144, op := Op.call { callee := Callee.value (Operand.func 10), args := #[Operand.tmp 143], argTypes := #[27] }, type := 27, pos := "outright.go:95", after := #[{ on := 1, ground := Ground.data }], guard := none }) rfl (fun K hK => ?_) (AllReadyH.cons (o := { dst := some 17, op := Op.alloc 27, type := 0, pos := "outright.go:95", after := #[], guard := none }) rfl (fun K hK => ?_) (AllReadyH.nil))
               · skip
                 go_simp
                 go_at_call 10
                 refine (twinR_any kc E G c5 c6 c n _ (GR.Rd.below DD_2.out (by repeat (first | exact HR.out | refine bl_drewN ?_ _ | refine bl_drew ?_ | refine bl_alloc ?_ _))) (GR.Rd.below DL_2.out (by repeat (first | exact HR.out | refine bl_drewN ?_ _ | refine bl_drew ?_ | refine bl_alloc ?_ _))) sc sn).mono ?_
                 rintro e q16_2 ⟨A_2, B_2, c_2, d_2, rfl, hra, hrl, hc1, _, hb2⟩
                 have bx := bx_of (W := m18) hb2 (by repeat (first | exact HR.out | refine bl_drewN ?_ _ | refine bl_drew ?_ | refine bl_alloc ?_ _))
                 have TD_2 := Lib.hid hra
                 have TL_2 := Lib.hid hrl
                 have TC_2 := hc1
                 clear hra hrl
                 have hs_2 : m18.heap.size ≤ q16_2.heap.size := (bl_then bx hb2).size
                 replace HR := Lib.hid (bl_then bx hb2)
                 clear hb2 bx
                 refine hK.out _ _ ?_ (fun hHeld => ?_)
                 · exact HKEEP.out _ (by repeat (first | exact HR.out | refine bl_drewN ?_ _ | refine bl_drew ?_ | refine bl_alloc ?_ _ | refine Below.setCell ?_ (by simp; try omega) _))
                 clear hK K
                 try simp only [Act.put, sA, s0, sS]
                 refine wpAnyH_ready (rs := [3, 7]) (by kernel_rfl) (by simp) ?_
                 refine AllReadyH.cons (o := { dst := some 145, op := Op.call { callee := Callee.value (Operand.func 12), args := #[Operand.tmp 142, Operand.tmp 144], argTypes := #[27, 27] }, type := 34, pos := "outright.go:95", after := #[{ on := 0, ground := Ground.data }, { on := 2, ground := Ground.data }, { on := 2, ground := Ground.chain }], guard := none }) rfl (fun K hK => ?_) (AllReadyH.cons (o := { dst := some 17, op := Op.alloc 27, type := 0, pos := "outright.go:95", after := #[], guard := none }) rfl (fun K hK => ?_) (AllReadyH.nil))
                 · skip
                   go_simp
                   go_at_call 12
                   refine (mrgO (Js) (Ms) xs (GR.Rd.below ELd.out (by repeat (first | exact HR.out | refine bl_drewN ?_ _ | refine bl_drew ?_ | refine bl_alloc ?_ _))) (GR.Rd.below ELl.out (by repeat (first | exact HR.out | refine bl_drewN ?_ _ | refine bl_drew ?_ | refine bl_alloc ?_ _))) (GR.Rd.below (w := q16_2) TD_2.out (by repeat (first | exact Below.refl _ _ | refine bl_drewN ?_ _ | refine bl_drew ?_ | refine bl_alloc ?_ _))) (GR.Rd.below (w := q16_2) TL_2.out (by repeat (first | exact Below.refl _ _ | refine bl_drewN ?_ _ | refine bl_drew ?_ | refine bl_alloc ?_ _))) rfl rfl rfl rfl (own_cap (F41.out.own 8 rfl).d) TC_2 R12.out HR3.out Esk.out Esj.out Esm.out Esx.out).mono ?_
                   rintro e q16_3 ⟨A_, B_, c_, d_, rfl, ho, hb2⟩
                   have bx := bx_of (W := m18) hb2 (by repeat (first | exact HR.out | refine bl_drewN ?_ _ | refine bl_drew ?_ | refine bl_alloc ?_ _))
                   have br := bx_of (W := q16_2) hb2 (by repeat (first | exact Below.refl _ _ | refine bl_drewN ?_ _ | refine bl_drew ?_ | refine bl_alloc ?_ _))
                   replace TD_2 := Lib.hid ((TD_2.out.below br).below hb2)
                   replace TL_2 := Lib.hid ((TL_2.out.below br).below hb2)
                   have HO := Lib.hid (OwnS.base ho (B' := m18.heap.size) bx.size)
                   clear ho
                   have hs_3 : m18.heap.size ≤ q16_3.heap.size := (bl_then bx hb2).size
                   replace HR := Lib.hid (bl_then bx hb2)
                   clear hb2 bx br
                   refine hK.out _ _ ?_ (fun hHeld => ?_)
                   · exact HKEEP.out _ (by repeat (first | exact HR.out | refine bl_drewN ?_ _ | refine bl_drew ?_ | refine bl_alloc ?_ _ | refine Below.setCell ?_ (by simp; try omega) _))
                   clear hK K
                   try simp only [Act.put, sA, s0, sS]
                   refine wpAnyH_take (i := 4) (oi := { dst := some 141, op := Op.move (Operand.tmp 145), type := 34, pos := "outright.go:95", after := #[{ on := 3, ground := Ground.data }], guard := none }) (v := ?_) rfl (by kernel_rfl) (by kernel_rfl) (by kernel_rfl) (fun _ _ _ h => h) (Or.inl ⟨by rfl, ?_⟩) (by assumption) ?_
                   rotate_left
                   · intro w_ hSw; (try dsimp only at hSw); go_simp; first | done | with_reducible rfl
                   try simp only [Act.put, sA, s0, sS]
                   refine wpAnyH_take (i := 5) (oi := { dst := some 146, op := Op.extract (Operand.tmp 141) 0, type := 27, pos := "outright.go:95", after := #[{ on := 4, ground := Ground.data }], guard := none }) (v := ?_) rfl (by kernel_rfl) (by kernel_rfl) (by kernel_rfl) (fun _ _ _ h => h) (Or.inl ⟨by rfl, ?_⟩) (by assumption) ?_
                   rotate_left
                   · intro w_ hSw; (try dsimp only at hSw); go_simp; first | done | with_reducible rfl
                   try simp only [Act.put, sA, s0, sS]
                   refine wpAnyH_take (i := 6) (oi := { dst := some 147, op := Op.extract (Operand.tmp 141) 1, type := 33, pos := "outright.go:95", after := #[{ on := 4, ground := Ground.data }, { on := 8, ground := Ground.gcOnly Departure.lateStores }], guard := none }) (v := ?_) rfl (by kernel_rfl) (by kernel_rfl) (by kernel_rfl) (fun _ _ _ h => h) (Or.inl ⟨by rfl, ?_⟩) (by assumption) ?_
                   rotate_left
                   · intro w_ hSw; (try dsimp only at hSw); go_simp; first | done | with_reducible rfl
                   try simp only [Act.put, sA, s0, sS]
                   refine wpAnyH_ready (rs := [7]) (by kernel_rfl) (by simp) ?_
                   refine AllReadyH.cons (o := { dst := some 17, op := Op.alloc 27, type := 0, pos := "outright.go:95", after := #[], guard := none }) rfl (fun K hK => ?_) (AllReadyH.nil)
                   go_simp
                   skip
                   refine hK.out _ _ ?_ (fun hHeld => ?_)
                   · exact HKEEP.out _ (by repeat (first | exact HR.out | refine bl_drewN ?_ _ | refine bl_drew ?_ | refine bl_alloc ?_ _ | refine Below.setCell ?_ (by simp; try omega) _))
                   clear hK K
                   try simp only [Act.put, sA, s0, sS]
                   refine wpAnyH_ready (rs := [8]) (by kernel_rfl) (by simp) ?_
                   refine AllReadyH.cons (o := { dst := none, op := Op.store 27 (Operand.tmp 17) (Operand.tmp 146), type := 0, pos := "outright.go:95", after := #[{ on := 7, ground := Ground.data }, { on := 5, ground := Ground.data }, { on := 3, ground := Ground.chain }, { on := 0, ground := Ground.phase }, { on := 1, ground := Ground.phase }, { on := 2, ground := Ground.phase }, { on := 3, ground := Ground.phase }, { on := 4, ground := Ground.phase }, { on := 5, ground := Ground.phase }, { on := 6, ground := Ground.textOnly Departure.lateStores }, { on := 7, ground := Ground.phase }], guard := none }) rfl (fun K hK => ?_) (AllReadyH.nil)
                   go_simp
                   skip
                   refine hK.out _ _ ?_ (fun hHeld => ?_)
                   · exact HKEEP.out _ (by repeat (first | exact HR.out | refine bl_drewN ?_ _ | refine bl_drew ?_ | refine bl_alloc ?_ _ | refine Below.setCell ?_ (by simp; try omega) _))
                   clear hK K
                   try simp only [Act.put, sA, s0, sS]
                   refine wpAnyH_take (i := 9) (oi := { dst := some 18, op := Op.assign (Operand.tmp 147), type := 33, pos := "outright.go:95", after := #[{ on := 6, ground := Ground.data }, { on := 8, ground := Ground.chain }, { on := 0, ground := Ground.phase }, { on := 1, ground := Ground.phase }, { on := 2, ground := Ground.phase }, { on := 3, ground := Ground.phase }, { on := 4, ground := Ground.phase }, { on := 5, ground := Ground.phase }, { on := 6, ground := Ground.phase }, { on := 7, ground := Ground.phase }, { on := 8, ground := Ground.phase }], guard := none }) (v := ?_) rfl (by kernel_rfl) (by kernel_rfl) (by kernel_rfl) (fun _ _ _ h => h) (Or.inl ⟨by rfl, ?_⟩) (by assumption) ?_
                   rotate_left
                   · intro w_ hSw; (try dsimp only at hSw); go_simp; first | done | with_reducible rfl
                   try simp only [Act.put, sA, s0, sS]
                   refine wpAnyH_done (by kernel_rfl) ?_ _
                   go_wp2_with fail
                   go_meet
                   exact ⟨_, A_, B_, c_, d_, rfl, rfl, Lib.hid (GR.Blk.new _ _ _), Lib.hid (OwnS.below HO.out (by repeat (first | exact Below.refl _ _ | refine bl_drewN ?_ _ | refine bl_drew ?_ | refine bl_alloc ?_ _))), Lib.hid (by repeat (first | exact HR.out | refine bl_drewN ?_ _ | refine bl_drew ?_ | refine bl_alloc ?_ _))⟩
                 · skip
                   go_simp
                   skip
                   refine hK.out _ _ ?_ (fun hHeld => ?_)
                   · exact HKEEP.out _ (by repeat (first | exact HR.out | refine bl_drewN ?_ _ | refine bl_drew ?_ | refine bl_alloc ?_ _ | refine Below.setCell ?_ (by simp; try omega) _))
                   clear hK K
                   try simp only [Act.put, sA, s0, sS]
                   refine wpAnyH_ready (rs := [3]) (by kernel_rfl) (by simp) ?_
                   refine AllReadyH.cons (o := { dst := some 145, op := Op.call { callee := Callee.value (Operand.func 12), args := #[Operand.tmp 142, Operand.tmp 144], argTypes := #[27, 27] }, type := 34, pos := "outright.go:95", after := #[{ on := 0, ground := Ground.data }, { on := 2, ground := Ground.data }, { on := 2, ground := Ground.chain }], guard := none }) rfl (fun K hK => ?_) (AllReadyH.nil)
                   go_simp
                   go_at_call 12
                   refine (mrgO (Js) (Ms) xs (GR.Rd.below ELd.out (by repeat (first | exact HR.out | refine bl_drewN ?_ _ | refine bl_drew ?_ | refine bl_alloc ?_ _))) (GR.Rd.below ELl.out (by repeat (first | exact HR.out | refine bl_drewN ?_ _ | refine bl_drew ?_ | refine bl_alloc ?_ _))) (GR.Rd.below (w := q16_2) TD_2.out (by repeat (first | exact Below.refl _ _ | refine bl_drewN ?_ _ | refine bl_drew ?_ | refine bl_alloc ?_ _))) (GR.Rd.below (w := q16_2) TL_2.out (by repeat (first | exact Below.refl _ _ | refine bl_drewN ?_ _ | refine bl_drew ?_ | refine bl_alloc ?_ _))) rfl rfl rfl rfl (own_cap (F41.out.own 8 rfl).d) TC_2 R12.out HR3.out Esk.out Esj.out Esm.out Esx.out).mono ?_
                   rintro e q16_3 ⟨A_, B_, c_, d_, rfl, ho, hb2⟩
                   have bx := bx_of (W := m18) hb2 (by repeat (first | exact HR.out | refine bl_drewN ?_ _ | refine bl_drew ?_ | refine bl_alloc ?_ _))
                   have br := bx_of (W := q16_2) hb2 (by repeat (first | exact Below.refl _ _ | refine bl_drewN ?_ _ | refine bl_drew ?_ | refine bl_alloc ?_ _))
                   replace TD_2 := Lib.hid ((TD_2.out.below br).below hb2)
                   replace TL_2 := Lib.hid ((TL_2.out.below br).below hb2)
                   have XG : Hid (GR.Blk q16_3 q16_2.heap.size 27 #[.string ⟨#[]⟩, .slice none 0 0, .slice none 0 0]) := Lib.hid (by
                    refine GR.Blk.below ?_ hb2 ?_
                    · exact new_at _ _ _ (by simp)
                    · simp)
                   have HO := Lib.hid (OwnS.base ho (B' := m18.heap.size) bx.size)
                   clear ho
                   have e0 := XG.out.cell 0
                   have e1 := XG.out.cell 1
                   have e2 := XG.out.cell 2
                   have f0 := XG.out.frozen 0
                   have f1 := XG.out.frozen 1
                   have f2 := XG.out.frozen 2
                   have hs_3 : m18.heap.size ≤ q16_3.heap.size := (bl_then bx hb2).size
                   replace HR := Lib.hid (bl_then bx hb2)
                   clear hb2 bx br
                   refine hK.out _ _ ?_ (fun hHeld => ?_)
                   · exact HKEEP.out _ (by repeat (first | exact HR.out | refine bl_drewN ?_ _ | refine bl_drew ?_ | refine bl_alloc ?_ _ | refine Below.setCell ?_ (by simp; try omega) _))
                   clear hK K
                   try simp only [Act.put, sA, s0, sS]
                   refine wpAnyH_take (i := 4) (oi := { dst := some 141, op := Op.move (Operand.tmp 145), type := 34, pos := "outright.go:95", after := #[{ on := 3, ground := Ground.data }], guard := none }) (v := ?_) rfl (by kernel_rfl) (by kernel_rfl) (by kernel_rfl) (fun _ _ _ h => h) (Or.inl ⟨by rfl, ?_⟩) (by assumption) ?_
                   rotate_left
                   · intro w_ hSw; (try dsimp only at hSw); go_simp; first | done | with_reducible rfl
                   try simp only [Act.put, sA, s0, sS]
                   refine wpAnyH_take (i := 5) (oi := { dst := some 146, op := Op.extract (Operand.tmp 141) 0, type := 27, pos := "outright.go:95", after := #[{ on := 4, ground := Ground.data }], guard := none }) (v := ?_) rfl (by kernel_rfl) (by kernel_rfl) (by kernel_rfl) (fun _ _ _ h => h) (Or.inl ⟨by rfl, ?_⟩) (by assumption) ?_
                   rotate_left
                   · intro w_ hSw; (try dsimp only at hSw); go_simp; first | done | with_reducible rfl
                   try simp only [Act.put, sA, s0, sS]
                   refine wpAnyH_take (i := 6) (oi := { dst := some 147, op := Op.extract (Operand.tmp 141) 1, type := 33, pos := "outright.go:95", after := #[{ on := 4, ground := Ground.data }, { on := 8, ground := Ground.gcOnly Departure.lateStores }], guard := none }) (v := ?_) rfl (by kernel_rfl) (by kernel_rfl) (by kernel_rfl) (fun _ _ _ h => h) (Or.inl ⟨by rfl, ?_⟩) (by assumption) ?_
                   rotate_left
                   · intro w_ hSw; (try dsimp only at hSw); go_simp; first | done | with_reducible rfl
                   try simp only [Act.put, sA, s0, sS]
                   refine wpAnyH_ready (rs := [8]) (by kernel_rfl) (by simp) ?_
                   refine AllReadyH.cons (o := { dst := none, op := Op.store 27 (Operand.tmp 17) (Operand.tmp 146), type := 0, pos := "outright.go:95", after := #[{ on := 7, ground := Ground.data }, { on := 5, ground := Ground.data }, { on := 3, ground := Ground.chain }, { on := 0, ground := Ground.phase }, { on := 1, ground := Ground.phase }, { on := 2, ground := Ground.phase }, { on := 3, ground := Ground.phase }, { on := 4, ground := Ground.phase }, { on := 5, ground := Ground.phase }, { on := 6, ground := Ground.textOnly Departure.lateStores }, { on := 7, ground := Ground.phase }], guard := none }) rfl (fun K hK => ?_) (AllReadyH.nil)
                   go_simp
                   skip
                   refine hK.out _ _ ?_ (fun hHeld => ?_)
                   · exact HKEEP.out _ (by repeat (first | exact HR.out | refine bl_drewN ?_ _ | refine bl_drew ?_ | refine bl_alloc ?_ _ | refine Below.setCell ?_ (by simp; try omega) _))
                   clear hK K
                   try simp only [Act.put, sA, s0, sS]
                   refine wpAnyH_take (i := 9) (oi := { dst := some 18, op := Op.assign (Operand.tmp 147), type := 33, pos := "outright.go:95", after := #[{ on := 6, ground := Ground.data }, { on := 8, ground := Ground.chain }, { on := 0, ground := Ground.phase }, { on := 1, ground := Ground.phase }, { on := 2, ground := Ground.phase }, { on := 3, ground := Ground.phase }, { on := 4, ground := Ground.phase }, { on := 5, ground := Ground.phase }, { on := 6, ground := Ground.phase }, { on := 7, ground := Ground.phase }, { on := 8, ground := Ground.phase }], guard := none }) (v := ?_) rfl (by kernel_rfl) (by kernel_rfl) (by kernel_rfl) (fun _ _ _ h => h) (Or.inl ⟨by rfl, ?_⟩) (by assumption) ?_
                   rotate_left
                   · intro w_ hSw; (try dsimp only at hSw); go_simp; first | done | with_reducible rfl
                   try simp only [Act.put, sA, s0, sS]
                   refine wpAnyH_done (by kernel_rfl) ?_ _
                   clear e0 e1 e2 f0 f1 f2
                   go_wp2_with fail
                   go_meet
                   exact ⟨_, A_, B_, c_, d_, rfl, rfl, Lib.hid (ob_put HO.out XG.out).2, Lib.hid (ob_put HO.out XG.out).1, Lib.hid (by repeat (first | exact HR.out | refine Below.setCell ?_ (by simp; try omega) _))⟩
               · skip
                 go_simp
                 skip
                 refine hK.out _ _ ?_ (fun hHeld => ?_)
                 · exact HKEEP.out _ (by repeat (first | exact HR.out | refine bl_drewN ?_ _ | refine bl_drew ?_ | refine bl_alloc ?_ _ | refine Below.setCell ?_ (by simp; try omega) _))
                 clear hK K
                 try simp only [Act.put, sA, s0, sS]
                 refine wpAnyH_ready (rs := [2]) (by kernel_rfl) (by simp) ?_
                 refine AllReadyH.cons (o := { dst := some 144, op := Op.call { callee := Callee.value (Operand.func 10), args := #[Operand.tmp 143], argTypes := #[27] }, type := 27, pos := "outright.go:95", after := #[{ on := 1, ground := Ground.data }], guard := none }) rfl (fun K hK => ?_) (AllReadyH.nil)
                 go_simp
                 go_at_call 10
                 refine (twinR_any kc E G c5 c6 c n _ (GR.Rd.below DD_2.out (by repeat (first | exact HR.out | refine bl_drewN ?_ _ | refine bl_drew ?_ | refine bl_alloc ?_ _))) (GR.Rd.below DL_2.out (by repeat (first | exact HR.out | refine bl_drewN ?_ _ | refine bl_drew ?_ | refine bl_alloc ?_ _))) sc sn).mono ?_
                 rintro e q16_2 ⟨A_2, B_2, c_2, d_2, rfl, hra, hrl, hc1, _, hb2⟩
                 have bx := bx_of (W := m18) hb2 (by repeat (first | exact HR.out | refine bl_drewN ?_ _ | refine bl_drew ?_ | refine bl_alloc ?_ _))
                 have TD_2 := Lib.hid hra
                 have TL_2 := Lib.hid hrl
                 have TC_2 := hc1
                 clear hra hrl
                 have XG : Hid (GR.Blk q16_2 m18.heap.size 27 #[.string ⟨#[]⟩, .slice none 0 0, .slice none 0 0]) := Lib.hid (by
                  refine GR.Blk.below ?_ hb2 ?_
                  · exact new_at _ _ _ (by simp)
                  · simp)
                 have hs_2 : m18.heap.size ≤ q16_2.heap.size := (bl_then bx hb2).size
                 replace HR := Lib.hid (bl_then bx hb2)
                 clear hb2 bx
                 refine hK.out _ _ ?_ (fun hHeld => ?_)
                 · exact HKEEP.out _ (by repeat (first | exact HR.out | refine bl_drewN ?_ _ | refine bl_drew ?_ | refine bl_alloc ?_ _ | refine Below.setCell ?_ (by simp; try omega) _))
                 clear hK K
                 try simp only [Act.put, sA, s0, sS]
                 refine wpAnyH_ready (rs := [3]) (by kernel_rfl) (by simp) ?_
                 refine AllReadyH.cons (o := { dst := some 145, op := Op.call { callee := Callee.value (Operand.func 12), args := #[Operand.tmp 142, Operand.tmp 144], argTypes := #[27, 27] }, type := 34, pos := "outright.go:95", after := #[{ on := 0, ground := Ground.data }, { on := 2, ground := Ground.data }, { on := 2, ground := Ground.chain }], guard := none }) rfl (fun K hK => ?_) (AllReadyH.nil)
                 go_simp
                 go_at_call 12
                 refine (mrgO (Js) (Ms) xs (GR.Rd.below ELd.out (by repeat (first | exact HR.out | refine bl_drewN ?_ _ | refine bl_drew ?_ | refine bl_alloc ?_ _))) (GR.Rd.below ELl.out (by repeat (first | exact HR.out | refine bl_drewN ?_ _ | refine bl_drew ?_ | refine bl_alloc ?_ _))) (GR.Rd.below (w := q16_2) TD_2.out (by repeat (first | exact Below.refl _ _ | refine bl_drewN ?_ _ | refine bl_drew ?_ | refine bl_alloc ?_ _))) (GR.Rd.below (w := q16_2) TL_2.out (by repeat (first | exact Below.refl _ _ | refine bl_drewN ?_ _ | refine bl_drew ?_ | refine bl_alloc ?_ _))) rfl rfl rfl rfl (own_cap (F41.out.own 8 rfl).d) TC_2 R12.out HR3.out Esk.out Esj.out Esm.out Esx.out).mono ?_
                 rintro e q16_3 ⟨A_, B_, c_, d_, rfl, ho, hb2⟩
                 have bx := bx_of (W := m18) hb2 (by repeat (first | exact HR.out | refine bl_drewN ?_ _ | refine bl_drew ?_ | refine bl_alloc ?_ _))
                 have br := bx_of (W := q16_2) hb2 (by repeat (first | exact Below.refl _ _ | refine bl_drewN ?_ _ | refine bl_drew ?_ | refine bl_alloc ?_ _))
                 replace TD_2 := Lib.hid ((TD_2.out.below br).below hb2)
                 replace TL_2 := Lib.hid ((TL_2.out.below br).below hb2)
                 replace XG := Lib.hid (blk_up XG.out br hb2)
                 have HO := Lib.hid (OwnS.base ho (B' := m18.heap.size) bx.size)
                 clear ho
                 have e0 := XG.out.cell 0
                 have e1 := XG.out.cell 1
                 have e2 := XG.out.cell 2
                 have f0 := XG.out.frozen 0
                 have f1 := XG.out.frozen 1
                 have f2 := XG.out.frozen 2
                 have hs_3 : m18.heap.size ≤ q16_3.heap.size := (bl_then bx hb2).size
                 replace HR := Lib.hid (bl_then bx hb2)
                 clear hb2 bx br
                 refine hK.out _ _ ?_ (fun hHeld => ?_)
                 · exact HKEEP.out _ (by repeat (first | exact HR.out | refine bl_drewN ?_ _ | refine bl_drew ?_ | refine bl_alloc ?_ _ | refine Below.setCell ?_ (by simp; try omega) _))
                 clear hK K
                 try simp only [Act.put, sA, s0, sS]
                 refine wpAnyH_take (i := 4) (oi := { dst := some 141, op := Op.move (Operand.tmp 145), type := 34, pos := "outright.go:95", after := #[{ on := 3, ground := Ground.data }], guard := none }) (v := ?_) rfl (by kernel_rfl) (by kernel_rfl) (by kernel_rfl) (fun _ _ _ h => h) (Or.inl ⟨by rfl, ?_⟩) (by assumption) ?_
                 rotate_left
                 · intro w_ hSw; (try dsimp only at hSw); go_simp; first | done | with_reducible rfl
                 try simp only [Act.put, sA, s0, sS]
                 refine wpAnyH_take (i := 5) (oi := { dst := some 146, op := Op.extract (Operand.tmp 141) 0, type := 27, pos := "outright.go:95", after := #[{ on := 4, ground := Ground.data }], guard := none }) (v := ?_) rfl (by kernel_rfl) (by kernel_rfl) (by kernel_rfl) (fun _ _ _ h => h) (Or.inl ⟨by rfl, ?_⟩) (by assumption) ?_
                 rotate_left
                 · intro w_ hSw; (try dsimp only at hSw); go_simp; first | done | with_reducible rfl
                 try simp only [Act.put, sA, s0, sS]
                 refine wpAnyH_take (i := 6) (oi := { dst := some 147, op := Op.extract (Operand.tmp 141) 1, type := 33, pos := "outright.go:95", after := #[{ on := 4, ground := Ground.data }, { on := 8, ground := Ground.gcOnly Departure.lateStores }], guard := none }) (v := ?_) rfl (by kernel_rfl) (by kernel_rfl) (by kernel_rfl) (fun _ _ _ h => h) (Or.inl ⟨by rfl, ?_⟩) (by assumption) ?_
                 rotate_left
                 · intro w_ hSw; (try dsimp only at hSw); go_simp; first | done | with_reducible rfl
                 try simp only [Act.put, sA, s0, sS]
                 refine wpAnyH_ready (rs := [8]) (by kernel_rfl) (by simp) ?_
                 refine AllReadyH.cons (o := { dst := none, op := Op.store 27 (Operand.tmp 17) (Operand.tmp 146), type := 0, pos := "outright.go:95", after := #[{ on := 7, ground := Ground.data }, { on := 5, ground := Ground.data }, { on := 3, ground := Ground.chain }, { on := 0, ground := Ground.phase }, { on := 1, ground := Ground.phase }, { on := 2, ground := Ground.phase }, { on := 3, ground := Ground.phase }, { on := 4, ground := Ground.phase }, { on := 5, ground := Ground.phase }, { on := 6, ground := Ground.textOnly Departure.lateStores }, { on := 7, ground := Ground.phase }], guard := none }) rfl (fun K hK => ?_) (AllReadyH.nil)
                 go_simp
                 skip
                 refine hK.out _ _ ?_ (fun hHeld => ?_)
                 · exact HKEEP.out _ (by repeat (first | exact HR.out | refine bl_drewN ?_ _ | refine bl_drew ?_ | refine bl_alloc ?_ _ | refine Below.setCell ?_ (by simp; try omega) _))
                 clear hK K
                 try simp only [Act.put, sA, s0, sS]
                 refine wpAnyH_take (i := 9) (oi := { dst := some 18, op := Op.assign (Operand.tmp 147), type := 33, pos := "outright.go:95", after := #[{ on := 6, ground := Ground.data }, { on := 8, ground := Ground.chain }, { on := 0, ground := Ground.phase }, { on := 1, ground := Ground.phase }, { on := 2, ground := Ground.phase }, { on := 3, ground := Ground.phase }, { on := 4, ground := Ground.phase }, { on := 5, ground := Ground.phase }, { on := 6, ground := Ground.phase }, { on := 7, ground := Ground.phase }, { on := 8, ground := Ground.phase }], guard := none }) (v := ?_) rfl (by kernel_rfl) (by kernel_rfl) (by kernel_rfl) (fun _ _ _ h => h) (Or.inl ⟨by rfl, ?_⟩) (by assumption) ?_
                 rotate_left
                 · intro w_ hSw; (try dsimp only at hSw); go_simp; first | done | with_reducible rfl
                 try simp only [Act.put, sA, s0, sS]
                 refine wpAnyH_done (by kernel_rfl) ?_ _
                 clear e0 e1 e2 f0 f1 f2
                 go_wp2_with fail
                 go_meet
                 exact ⟨_, A_, B_, c_, d_, rfl, rfl, Lib.hid (ob_put HO.out XG.out).2, Lib.hid (ob_put HO.out XG.out).1, Lib.hid (by repeat (first | exact HR.out | refine Below.setCell ?_ (by simp; try omega) _))⟩
             case rest =>
              obtain ⟨gs, As, Bs, cs, ds, rfl, rfl, BZ, BO, BC⟩ := hcut
              obtain ⟨m19, hw_⟩ : ∃ x : World, x = wc := ⟨_, rfl⟩
              subst hw_
              have F42 := Lib.hid (F41.out.below BC.out)
              clear F41
              have F43 := Lib.hid (HS.addB F42.out (g := gs) (t := 27) (cs := #[.string ks, .slice As (Js).length cs, .slice Bs (Ms).length ds]) (BZ.out))
              clear F42
              have F44 := Lib.hid (F43.out.addO (BO.out))
              clear F43
              replace BB := Lib.hid (bl_then BB.out BC.out)
              clear BZ BO BC
              go_upto_region 17 with fail
              go_cut [19, 20] from 148 (fun s1 s2 wx => ∃ (g : Nat) (A_ B_ : Option Addr) (c_ d_ : Nat), s1 = .pointer (some ⟨g, 0, none⟩) ∧ s2 = .int .i64 xt ∧ Hid (GR.Blk wx g 27 #[.string kt, .slice A_ (Jt).length c_, .slice B_ (Mt).length d_]) ∧ Hid (OwnS wx m19.heap.size (.slice A_ (Jt).length c_) (.slice B_ (Mt).length d_) Jt Mt) ∧ Hid (Below m19.heap.size m19 wx))
              case first =>
               as_aux_lemma =>
                have K0 : Hid (m19.cell? ⟨w.heap.size, 0, none⟩ = some (.string ka)) := Lib.hid ((F44.out.blk 20 rfl).cell 0)
                have K1 : Hid (m19.cell? ⟨w.heap.size, 1, none⟩ = some (.slice A a.length c1)) := Lib.hid ((F44.out.blk 20 rfl).cell 1)
                have K2 : Hid (m19.cell? ⟨w.heap.size, 2, none⟩ = some (.slice B l.length c2)) := Lib.hid ((F44.out.blk 20 rfl).cell 2)
                have pa_lt : w.heap.size < m19.heap.size := (F44.out.blk 20 rfl).lt
                have K3 : Hid (m19.cell? ⟨g23, 0, none⟩ = some (.string k23)) := Lib.hid ((F44.out.blk 3 rfl).cell 0)
                have K4 : Hid (m19.cell? ⟨g23, 1, none⟩ = some (.slice A23 (J23).length c23)) := Lib.hid ((F44.out.blk 3 rfl).cell 1)
                have K5 : Hid (m19.cell? ⟨g23, 2, none⟩ = some (.slice B23 (M23).length d23)) := Lib.hid ((F44.out.blk 3 rfl).cell 2)
                have p23_lt : g23 < m19.heap.size := (F44.out.blk 3 rfl).lt
                have DD_1 := Lib.hid (F44.out.rd 17 rfl)
                have DL_1 := Lib.hid (F44.out.rd 16 rfl)
                have ERd := Lib.hid ((F44.out.own 2 rfl).d.rd ja23).2.2
                have ERl := Lib.hid ((F44.out.own 2 rfl).s.rd jl23).2.2
                have HR := Lib.hid (Below.refl m19.heap.size m19)
                have HKEEP : Hid (∀ w', Below m19.heap.size m19 w' → (w'.cell? ⟨w.heap.size, 0, none⟩ = some (.string ka) ∧ w'.cell? ⟨w.heap.size, 1, none⟩ = some (.slice A a.length c1) ∧ w'.cell? ⟨w.heap.size, 2, none⟩ = some (.slice B l.length c2) ∧ w'.cell? ⟨g23, 0, none⟩ = some (.string k23) ∧ w'.cell? ⟨g23, 1, none⟩ = some (.slice A23 (J23).length c23) ∧ w'.cell? ⟨g23, 2, none⟩ = some (.slice B23 (M23).length d23))) := Lib.hid (fun w' hb => ⟨(Below.cell (p := ⟨w.heap.size, 0, none⟩) hb (World.block_lt_of_cell? m19 _ K0.out)).trans K0.out, (Below.cell (p := ⟨w.heap.size, 1, none⟩) hb (World.block_lt_of_cell? m19 _ K1.out)).trans K1.out, (Below.cell (p := ⟨w.heap.size, 2, none⟩) hb (World.block_lt_of_cell? m19 _ K2.out)).trans K2.out, (Below.cell (p := ⟨g23, 0, none⟩) hb (World.block_lt_of_cell? m19 _ K3.out)).trans K3.out, (Below.cell (p := ⟨g23, 1, none⟩) hb (World.block_lt_of_cell? m19 _ K4.out)).trans K4.out, (Below.cell (p := ⟨g23, 2, none⟩) hb (World.block_lt_of_cell? m19 _ K5.out)).trans K5.out⟩)
                refine wp_region_held_drew (S := fun w' => w'.cell? ⟨w.heap.size, 0, none⟩ = some (.string ka) ∧ w'.cell? ⟨w.heap.size, 1, none⟩ = some (.slice A a.length c1) ∧ w'.cell? ⟨w.heap.size, 2, none⟩ = some (.slice B l.length c2) ∧ w'.cell? ⟨g23, 0, none⟩ = some (.string k23) ∧ w'.cell? ⟨g23, 1, none⟩ = some (.slice A23 (J23).length c23) ∧ w'.cell? ⟨g23, 2, none⟩ = some (.slice B23 (M23).length d23)) (by kernel_rfl) ?_ (fun hHeld => ?_)
                · exact ⟨K0.out, K1.out, K2.out, K3.out, K4.out, K5.out⟩
                refine wpAnyH_take (i := 0) (oi := { dst := some 149, op := Op.load 27 (Operand.tmp 3), type := 27, pos := "outright.go:96", after := #[], guard := none }) (v := ?_) rfl (by kernel_rfl) (by kernel_rfl) (by kernel_rfl) (fun _ _ _ h => h) (Or.inl ⟨by rfl, ?_⟩) (by assumption) ?_
                rotate_left
                · intro w_ hSw; (try dsimp only at hSw); go_simp; first | done | with_reducible rfl
                try simp only [Act.put, sA, s0, sS]
                refine wpAnyH_take (i := 2) (oi := { dst := some 151, op := Op.load 27 (Operand.tmp 15), type := 27, pos := "outright.go:96", after := #[], guard := none }) (v := ?_) rfl (by kernel_rfl) (by kernel_rfl) (by kernel_rfl) (fun _ _ _ h => h) (Or.inl ⟨by rfl, ?_⟩) (by assumption) ?_
                rotate_left
                · intro w_ hSw; (try dsimp only at hSw); go_simp; first | done | with_reducible rfl
                try simp only [Act.put, sA, s0, sS]
                refine wpAnyH_ready (rs := [1, 7]) (by kernel_rfl) (by simp) ?_
                refine AllReadyH.cons (o := { dst := some 150, op := Op.call { callee := Callee.value (Operand.func 10), args := #[Operand.tmp 149], argTypes := #[27] }, type := 27, pos := "outright.go:96", after := #[{ on := 0, ground := Ground.data }], guard := none }) rfl (fun K hK => ?_) (AllReadyH.cons (o := { dst := some 19, op := Op.alloc 27, type := 0, pos := "outright.go:96", after := #[], guard := none }) rfl (fun K hK => ?_) (AllReadyH.nil))
                · skip
                  go_simp
                  go_at_call 10
                  refine (twinR_any ka A B c1 c2 a l _ (GR.Rd.below DD_1.out (by repeat (first | exact HR.out | refine bl_drewN ?_ _ | refine bl_drew ?_ | refine bl_alloc ?_ _))) (GR.Rd.below DL_1.out (by repeat (first | exact HR.out | refine bl_drewN ?_ _ | refine bl_drew ?_ | refine bl_alloc ?_ _))) sa sl).mono ?_
                  rintro e q17_1 ⟨A_1, B_1, c_1, d_1, rfl, hra, hrl, hc1, _, hb2⟩
                  have bx := bx_of (W := m19) hb2 (by repeat (first | exact HR.out | refine bl_drewN ?_ _ | refine bl_drew ?_ | refine bl_alloc ?_ _))
                  have TD_1 := Lib.hid hra
                  have TL_1 := Lib.hid hrl
                  have TC_1 := hc1
                  clear hra hrl
                  have hs_1 : m19.heap.size ≤ q17_1.heap.size := (bl_then bx hb2).size
                  replace HR := Lib.hid (bl_then bx hb2)
                  clear hb2 bx
                  refine hK.out _ _ ?_ (fun hHeld => ?_)
                  · exact HKEEP.out _ (by repeat (first | exact HR.out | refine bl_drewN ?_ _ | refine bl_drew ?_ | refine bl_alloc ?_ _ | refine Below.setCell ?_ (by simp; try omega) _))
                  clear hK K
                  try simp only [Act.put, sA, s0, sS]
                  refine wpAnyH_ready (rs := [3, 7]) (by kernel_rfl) (by simp) ?_
                  refine AllReadyH.cons (o := { dst := some 152, op := Op.call { callee := Callee.value (Operand.func 12), args := #[Operand.tmp 150, Operand.tmp 151], argTypes := #[27, 27] }, type := 34, pos := "outright.go:96", after := #[{ on := 1, ground := Ground.data }, { on := 2, ground := Ground.data }, { on := 1, ground := Ground.chain }], guard := none }) rfl (fun K hK => ?_) (AllReadyH.cons (o := { dst := some 19, op := Op.alloc 27, type := 0, pos := "outright.go:96", after := #[], guard := none }) rfl (fun K hK => ?_) (AllReadyH.nil))
                  · skip
                    go_simp
                    go_at_call 12
                    refine (mrgO (Jt) (Mt) xt (GR.Rd.below (w := q17_1) TD_1.out (by repeat (first | exact Below.refl _ _ | refine bl_drewN ?_ _ | refine bl_drew ?_ | refine bl_alloc ?_ _))) (GR.Rd.below (w := q17_1) TL_1.out (by repeat (first | exact Below.refl _ _ | refine bl_drewN ?_ _ | refine bl_drew ?_ | refine bl_alloc ?_ _))) (GR.Rd.below ERd.out (by repeat (first | exact HR.out | refine bl_drewN ?_ _ | refine bl_drew ?_ | refine bl_alloc ?_ _))) (GR.Rd.below ERl.out (by repeat (first | exact HR.out | refine bl_drewN ?_ _ | refine bl_drew ?_ | refine bl_alloc ?_ _))) rfl rfl rfl rfl TC_1 (own_cap (F44.out.own 2 rfl).d) HR1.out R23.out Etk.out Etj.out Etm.out Etx.out).mono ?_
                    rintro e q17_3 ⟨A_, B_, c_, d_, rfl, ho, hb2⟩
                    have bx := bx_of (W := m19) hb2 (by repeat (first | exact HR.out | refine bl_drewN ?_ _ | refine bl_drew ?_ | refine bl_alloc ?_ _))
                    have br := bx_of (W := q17_1) hb2 (by repeat (first | exact Below.refl _ _ | refine bl_drewN ?_ _ | refine bl_drew ?_ | refine bl_alloc ?_ _))
                    replace TD_1 := Lib.hid ((TD_1.out.below br).below hb2)
                    replace TL_1 := Lib.hid ((TL_1.out.below br).below hb2)
                    have HO := Lib.hid (OwnS.base ho (B' := m19.heap.size) bx.size)
                    clear ho
                    have hs_3 : m19.heap.size ≤ q17_3.heap.size := (bl_then bx hb2).size
                    replace HR := Lib.hid (bl_then bx hb2)
                    clear hb2 bx br
                    refine hK.out _ _ ?_ (fun hHeld => ?_)
                    · exact HKEEP.out _ (by repeat (first | exact HR.out | refine bl_drewN ?_ _ | refine bl_drew ?_ | refine bl_alloc ?_ _ | refine Below.setCell ?_ (by simp; try omega) _))
                    clear hK K
                    try simp only [Act.put, sA, s0, sS]
                    refine wpAnyH_take (i := 4) (oi := { dst := some 148, op := Op.move (Operand.tmp 152), type := 34, pos := "outright.go:96", after := #[{ on := 3, ground := Ground.data }], guard := none }) (v := ?_) rfl (by kernel_rfl) (by kernel_rfl) (by kernel_rfl) (fun _ _ _ h => h) (Or.inl ⟨by rfl, ?_⟩) (by assumption) ?_
                    rotate_left
                    · intro w_ hSw; (try dsimp only at hSw); go_simp; first | done | with_reducible rfl
                    try simp only [Act.put, sA, s0, sS]
                    refine wpAnyH_take (i := 5) (oi := { dst := some 153, op := Op.extract (Operand.tmp 148) 0, type := 27, pos := "outright.go:96", after := #[{ on := 4, ground := Ground.data }], guard := none }) (v := ?_) rfl (by kernel_rfl) (by kernel_rfl) (by kernel_rfl) (fun _ _ _ h => h) (Or.inl ⟨by rfl, ?_⟩) (by assumption) ?_
                    rotate_left
                    · intro w_ hSw; (try dsimp only at hSw); go_simp; first | done | with_reducible rfl
                    try simp only [Act.put, sA, s0, sS]
                    refine wpAnyH_take (i := 6) (oi := { dst := some 154, op := Op.extract (Operand.tmp 148) 1, type := 33, pos := "outright.go:96", after := #[{ on := 4, ground := Ground.data }, { on := 8, ground := Ground.gcOnly Departure.lateStores }], guard := none }) (v := ?_) rfl (by kernel_rfl) (by kernel_rfl) (by kernel_rfl) (fun _ _ _ h => h) (Or.inl ⟨by rfl, ?_⟩) (by assumption) ?_
                    rotate_left
                    · intro w_ hSw; (try dsimp only at hSw); go_simp; first | done | with_reducible rfl
                    try simp only [Act.put, sA, s0, sS]
                    refine wpAnyH_ready (rs := [7]) (by kernel_rfl) (by simp) ?_
                    refine AllReadyH.cons (o := { dst := some 19, op := Op.alloc 27, type := 0, pos := "outright.go:96", after := #[], guard := none }) rfl (fun K hK => ?_) (AllReadyH.nil)
                    go_simp
                    skip
                    refine hK.out _ _ ?_ (fun hHeld => ?_)
                    · exact HKEEP.out _ (by repeat (first | exact HR.out | refine bl_drewN ?_ _ | refine bl_drew ?_ | refine bl_alloc ?_ _ | refine Below.setCell ?_ (by simp; try omega) _))
                    clear hK K
                    try simp only [Act.put, sA, s0, sS]
                    refine wpAnyH_ready (rs := [8]) (by kernel_rfl) (by simp) ?_
                    refine AllReadyH.cons (o := { dst := none, op := Op.store 27 (Operand.tmp 19) (Operand.tmp 153), type := 0, pos := "outright.go:96", after := #[{ on := 7, ground := Ground.data }, { on := 5, ground := Ground.data }, { on := 3, ground := Ground.chain }, { on := 0, ground := Ground.phase }, { on := 1, ground := Ground.phase }, { on := 2, ground := Ground.phase }, { on := 3, ground := Ground.phase }, { on := 4, ground := Ground.phase }, { on := 5, ground := Ground.phase }, { on := 6, ground := Ground.textOnly Departure.lateStores }, { on := 7, ground := Ground.phase }], guard := none }) rfl (fun K hK => ?_) (AllReadyH.nil)
                    go_simp
                    skip
                    refine hK.out _ _ ?_ (fun hHeld => ?_)
                    · exact HKEEP.out _ (by repeat (first | exact HR.out | refine bl_drewN ?_ _ | refine bl_drew ?_ | refine bl_alloc ?_ _ | refine Below.setCell ?_ (by simp; try omega) _))
                    clear hK K
                    try simp only [Act.put, sA, s0, sS]
                    refine wpAnyH_take (i := 9) (oi := { dst := some 20, op := Op.assign (Operand.tmp 154), type := 33, pos := "outright.go:96", after := #[{ on := 6, ground := Ground.data }, { on := 8, ground := Ground.chain }, { on := 0, ground := Ground.phase }, { on := 1, ground := Ground.phase }, { on := 2, ground := Ground.phase }, { on := 3, ground := Ground.phase }, { on := 4, ground := Ground.phase }, { on := 5, ground := Ground.phase }, { on := 6, ground := Ground.phase }, { on := 7, ground := Ground.phase }, { on := 8, ground := Ground.phase }], guard := none }) (v := ?_) rfl (by kernel_rfl) (by kernel_rfl) (by kernel_rfl) (fun _ _ _ h => h) (Or.inl ⟨by rfl, ?_⟩) (by assumption) ?_
                    rotate_left
                    · intro w_ hSw; (try dsimp only at hSw); go_simp; first | done | with_reducible rfl
                    try simp only [Act.put, sA, s0, sS]
                    refine wpAnyH_done (by kernel_rfl) ?_ _
                    go_wp2_with fail
                    go_meet
                    exact ⟨_, A_, B_, c_, d_, rfl, rfl, Lib.hid (GR.Blk.new _ _ _), Lib.hid (OwnS.below HO.out (by repeat (first | exact Below.refl _ _ | refine bl_drewN ?_ _ | refine bl_drew ?_ | refine bl_alloc ?_ _))), Lib.hid (by repeat (first | exact HR.out | refine bl_drewN ?_ _ | refine bl_drew ?_ | refine bl_alloc ?_ _))⟩
                  · skip
                    go_simp
                    skip
                    refine hK.out _ _ ?_ (fun hHeld => ?_)
                    · exact HKEEP.out _ (by repeat (first | exact HR.out | refine bl_drewN ?_ _ | refine bl_drew ?_ | refine bl_alloc ?_ _ | refine Below.setCell ?_ (by simp; try omega) _))
                    clear hK K
                    try simp only [Act.put, sA, s0, sS]
                    refine wpAnyH_ready (rs := [3]) (by kernel_rfl) (by simp) ?_
                    refine AllReadyH.cons (o := { dst := some 152, op := Op.call { callee := Callee.value (Operand.func 12), args := #[Operand.tmp 150, Operand.tmp 151], argTypes := #[27, 27] }, type := 34, pos := "outright.go:96", after := #[{ on := 1, ground := Ground.data }, { on := 2, ground := Ground.data }, { on := 1, ground := Ground.chain }], guard := none }) rfl (fun K hK => ?_) (AllReadyH.nil)
                    go_simp
                    go_at_call 12
                    refine (mrgO (Jt) (Mt) xt (GR.Rd.below (w := q17_1) TD_1.out (by repeat (first | exact Below.refl _ _ | refine bl_drewN ?_ _ | refine bl_drew ?_ | refine bl_alloc ?_ _))) (GR.Rd.below (w := q17_1) TL_1.out (by repeat (first | exact Below.refl _ _ | refine bl_drewN ?_ _ | refine bl_drew ?_ | refine bl_alloc ?_ _))) (GR.Rd.below ERd.out (by repeat (first | exact HR.out | refine bl_drewN ?_ _ | refine bl_drew ?_ | refine bl_alloc ?_ _))) (GR.Rd.below ERl.out (by repeat (first | exact HR.out | refine bl_drewN ?_ _ | refine bl_drew ?_ | refine bl_alloc ?_ _))) rfl rfl rfl rfl TC_1 (own_cap (F44.out.own 2 rfl).d) HR1.out R23.out Etk.out Etj.out Etm.out Etx.out).mono ?_
                    rintro e q17_3 ⟨A_, B_, c_, d_, rfl, ho, hb2⟩
                    have bx := bx_of (W := m19) hb2 (by repeat (first | exact HR.out | refine bl_drewN ?_ _ | refine bl_drew ?_ | refine bl_alloc ?_ _))
                    have br := bx_of (W := q17_1) hb2 (by repeat (first | exact Below.refl _ _ | refine bl_drewN ?_ _ | refine bl_drew ?_ | refine bl_alloc ?_ _))
                    replace TD_1 := Lib.hid ((TD_1.out.below br).below hb2)
                    replace TL_1 := Lib.hid ((TL_1.out.below br).below hb2)
                    have XG : Hid (GR.Blk q17_3 q17_1.heap.size 27 #[.string ⟨#[]⟩, .slice none 0 0, .slice none 0 0]) := Lib.hid (by
                     refine GR.Blk.below ?_ hb2 ?_
                     · exact new_at _ _ _ (by simp)
                     · simp)
                    have HO := Lib.hid (OwnS.base ho (B' := m19.heap.size) bx.size)
                    clear ho
                    have e0 := XG.out.cell 0
                    have e1 := XG.out.cell 1
                    have e2 := XG.out.cell 2
                    have f0 := XG.out.frozen 0
                    have f1 := XG.out.frozen 1
                    have f2 := XG.out.frozen 2
                    have hs_3 : m19.heap.size ≤ q17_3.heap.size := (bl_then bx hb2).size
                    replace HR := Lib.hid (bl_then bx hb2)
                    clear hb2 bx br
                    refine hK.out _ _ ?_ (fun hHeld => ?_)
                    · exact HKEEP.out _ (by repeat (first | exact HR.out | refine bl_drewN ?_ _ | refine bl_drew ?_ | refine bl_alloc ?_ _ | refine Below.setCell ?_ (by simp; try omega) _))
                    clear hK K
                    try simp only [Act.put, sA, s0, sS]
                    refine wpAnyH_take (i := 4) (oi := { dst := some 148, op := Op.move (Operand.tmp 152), type := 34, pos := "outright.go:96", after := #[{ on := 3, ground := Ground.data }], guard := none }) (v := ?_) rfl (by kernel_rfl) (by kernel_rfl) (by kernel_rfl) (fun _ _ _ h => h) (Or.inl ⟨by rfl, ?_⟩) (by assumption) ?_
                    rotate_left
                    · intro w_ hSw; (try dsimp only at hSw); go_simp; first | done | with_reducible rfl
                    try simp only [Act.put, sA, s0, sS]
                    refine wpAnyH_take (i := 5) (oi := { dst := some 153, op := Op.extract (Operand.tmp 148) 0, type := 27, pos := "outright.go:96", after := #[{ on := 4, ground := Ground.data }], guard := none }) (v := ?_) rfl (by kernel_rfl) (by kernel_rfl) (by kernel_rfl) (fun _ _ _ h => h) (Or.inl ⟨by rfl, ?_⟩) (by assumption) ?_
                    rotate_left
                    · intro w_ hSw; (try dsimp only at hSw); go_simp; first | done | with_reducible rfl
                    try simp only [Act.put, sA, s0, sS]
                    refine wpAnyH_take (i := 6) (oi := { dst := some 154, op := Op.extract (Operand.tmp 148) 1, type := 33, pos := "outright.go:96", after := #[{ on := 4, ground := Ground.data }, { on := 8, ground := Ground.gcOnly Departure.lateStores }], guard := none }) (v := ?_) rfl (by kernel_rfl) (by kernel_rfl) (by kernel_rfl) (fun _ _ _ h => h) (Or.inl ⟨by rfl, ?_⟩) (by assumption) ?_
                    rotate_left
                    · intro w_ hSw; (try dsimp only at hSw); go_simp; first | done | with_reducible rfl
                    try simp only [Act.put, sA, s0, sS]
                    refine wpAnyH_ready (rs := [8]) (by kernel_rfl) (by simp) ?_
                    refine AllReadyH.cons (o := { dst := none, op := Op.store 27 (Operand.tmp 19) (Operand.tmp 153), type := 0, pos := "outright.go:96", after := #[{ on := 7, ground := Ground.data }, { on := 5, ground := Ground.data }, { on := 3, ground := Ground.chain }, { on := 0, ground := Ground.phase }, { on := 1, ground := Ground.phase }, { on := 2, ground := Ground.phase }, { on := 3, ground := Ground.phase }, { on := 4, ground := Ground.phase }, { on := 5, ground := Ground.phase }, { on := 6, ground := Ground.textOnly Departure.lateStores }, { on := 7, ground := Ground.phase }], guard := none }) rfl (fun K hK => ?_) (AllReadyH.nil)
                    go_simp
                    skip
                    refine hK.out _ _ ?_ (fun hHeld => ?_)
                    · exact HKEEP.out _ (by repeat (first | exact HR.out | refine bl_drewN ?_ _ | refine bl_drew ?_ | refine bl_alloc ?_ _ | refine Below.setCell ?_ (by simp; try omega) _))
                    clear hK K
                    try simp only [Act.put, sA, s0, sS]
                    refine wpAnyH_take (i := 9) (oi := { dst := some 20, op := Op.assign (Operand.tmp 154), type := 33, pos := "outright.go:96", after := #[{ on := 6, ground := Ground.data }, { on := 8, ground := Ground.chain }, { on := 0, ground := Ground.phase }, { on := 1, ground := Ground.phase }, { on := 2, ground := Ground.phase }, { on := 3, ground := Ground.phase }, { on := 4, ground := Ground.phase }, { on := 5, ground := Ground.phase }, { on := 6, ground := Ground.phase }, { on := 7, ground := Ground.phase }, { on := 8, ground := Ground.phase }], guard := none }) (v := ?_) rfl (by kernel_rfl) (by kernel_rfl) (by kernel_rfl) (fun _ _ _ h => h) (Or.inl ⟨by rfl, ?_⟩) (by assumption) ?_
                    rotate_left
                    · intro w_ hSw; (try dsimp only at hSw); go_simp; first | done | with_reducible rfl
                    try simp only [Act.put, sA, s0, sS]
                    refine wpAnyH_done (by kernel_rfl) ?_ _
                    clear e0 e1 e2 f0 f1 f2
                    go_wp2_with fail
                    go_meet
                    exact ⟨_, A_, B_, c_, d_, rfl, rfl, Lib.hid (ob_put HO.out XG.out).2, Lib.hid (ob_put HO.out XG.out).1, Lib.hid (by repeat (first | exact HR.out | refine Below.setCell ?_ (by simp; try omega) _))⟩
                · skip
                  go_simp
                  skip
                  refine hK.out _ _ ?_ (fun hHeld => ?_)
                  · exact HKEEP.out _ (by repeat (first | exact HR.out | refine bl_drewN ?_ _ | refine bl_drew ?_ | refine bl_alloc ?_ _ | refine Below.setCell ?_ (by simp; try omega) _))
                  clear hK K
                  try simp only [Act.put, sA, s0, sS]
                  refine wpAnyH_ready (rs := [1]) (by kernel_rfl) (by simp) ?_
                  refine AllReadyH.cons (o := { dst := some 150, op := Op.call { callee := Callee.value (Operand.func 10), args := #[Operand.tmp 149], argTypes := #[27] }, type := 27, pos := "outright.go:96", after := #[{ on := 0, ground := Ground.data }], guard := none }) rfl (fun K hK => ?_) (AllReadyH.nil)
                  go_simp
                  go_at_call 10
                  refine (twinR_any ka A B c1 c2 a l _ (GR.Rd.below DD_1.out (by repeat (first | exact HR.out | refine bl_drewN ?_ _ | refine bl_drew ?_ | refine bl_alloc ?_ _))) (GR.Rd.below DL_1.out (by repeat (first | exact HR.out | refine bl_drewN ?_ _ | refine bl_drew ?_ | refine bl_alloc ?_ _))) sa sl).mono ?_
                  rintro e q17_1 ⟨A_1, B_1, c_1, d_1, rfl, hra, hrl, hc1, _, hb2⟩
                  have bx := bx_of (W := m19) hb2 (by repeat (first | exact HR.out | refine bl_drewN ?_ _ | refine bl_drew ?_ | refine bl_alloc ?_ _))
                  have TD_1 := Lib.hid hra
                  have TL_1 := Lib.hid hrl
                  have TC_1 := hc1
                  clear hra hrl
                  have XG : Hid (GR.Blk q17_1 m19.heap.size 27 #[.string ⟨#[]⟩, .slice none 0 0, .slice none 0 0]) := Lib.hid (by
                   refine GR.Blk.below ?_ hb2 ?_
                   · exact new_at _ _ _ (by simp)
                   · simp)
                  have hs_1 : m19.heap.size ≤ q17_1.heap.size := (bl_then bx hb2).size
                  replace HR := Lib.hid (bl_then bx hb2)
                  clear hb2 bx
                  refine hK.out _ _ ?_ (fun hHeld => ?_)
                  · exact HKEEP.out _ (by repeat (first | exact HR.out | refine bl_drewN ?_ _ | refine bl_drew ?_ | refine bl_alloc ?_ _ | refine Below.setCell ?_ (by simp; try omega) _))
                  clear hK K
                  try simp only [Act.put, sA, s0, sS]
                  refine wpAnyH_ready (rs := [3]) (by kernel_rfl) (by simp) ?_
                  refine AllReadyH.cons (o := { dst := some 152, op := Op.call { callee := Callee.value (Operand.func 12), args := #[Operand.tmp 150, Operand.tmp 151], argTypes := #[27, 27] }, type := 34, pos := "outright.go:96", after := #[{ on := 1, ground := Ground.data }, { on := 2, ground := Ground.data }, { on := 1, ground := Ground.chain }], guard := none }) rfl (fun K hK => ?_) (AllReadyH.nil)
                  go_simp
                  go_at_call 12
                  refine (mrgO (Jt) (Mt) xt (GR.Rd.below (w := q17_1) TD_1.out (by repeat (first | exact Below.refl _ _ | refine bl_drewN ?_ _ | refine bl_drew ?_ | refine bl_alloc ?_ _))) (GR.Rd.below (w := q17_1) TL_1.out (by repeat (first | exact Below.refl _ _ | refine bl_drewN ?_ _ | refine bl_drew ?_ | refine bl_alloc ?_ _))) (GR.Rd.below ERd.out (by repeat (first | exact HR.out | refine bl_drewN ?_ _ | refine bl_drew ?_ | refine bl_alloc ?_ _))) (GR.Rd.below ERl.out (by repeat (first | exact HR.out | refine bl_drewN ?_ _ | refine bl_drew ?_ | refine bl_alloc ?_ _))) rfl rfl rfl rfl TC_1 (own_cap (F44.out.own 2 rfl).d) HR1.out R23.out Etk.out Etj.out Etm.out Etx.out).mono ?_
                  rintro e q17_3 ⟨A_, B_, c_, d_, rfl, ho, hb2⟩
                  have bx := bx_of (W := m19) hb2 (by repeat (first | exact HR.out | refine bl_drewN ?_ _ | refine bl_drew ?_ | refine bl_alloc ?_ _))
                  have br := bx_of (W := q17_1) hb2 (by repeat (first | exact Below.refl _ _ | refine bl_drewN ?_ _ | refine bl_drew ?_ | refine bl_alloc ?_ _))
                  replace TD_1 := Lib.hid ((TD_1.out.below br).below hb2)
                  replace TL_1 := Lib.hid ((TL_1.out.below br).below hb2)
                  replace XG := Lib.hid (blk_up XG.out br hb2)
                  have HO := Lib.hid (OwnS.base ho (B' := m19.heap.size) bx.size)
                  clear ho
                  have e0 := XG.out.cell 0
                  have e1 := XG.out.cell 1
                  have e2 := XG.out.cell 2
                  have f0 := XG.out.frozen 0
                  have f1 := XG.out.frozen 1
                  have f2 := XG.out.frozen 2
                  have hs_3 : m19.heap.size ≤ q17_3.heap.size := (bl_then bx hb2).size
                  replace HR := Lib.hid (bl_then bx hb2)
                  clear hb2 bx br
                  refine hK.out _ _ ?_ (fun hHeld => ?_)
                  · exact HKEEP.out _ (by repeat (first | exact HR.out | refine bl_drewN ?_ _ | refine bl_drew ?_ | refine bl_alloc ?_ _ | refine Below.setCell ?_ (by simp; try omega) _))
                  clear hK K
                  try simp only [Act.put, sA, s0, sS]
                  refine wpAnyH_take (i := 4) (oi := { dst := some 148, op := Op.move (Operand.tmp 152), type := 34, pos := "outright.go:96", after := #[{ on := 3, ground := Ground.data }], guard := none }) (v := ?_) rfl (by kernel_rfl) (by kernel_rfl) (by kernel_rfl) (fun _ _ _ h => h) (Or.inl ⟨by rfl, ?_⟩) (by assumption) ?_
                  rotate_left
                  · intro w_ hSw; (try dsimp only at hSw); go_simp; first | done | with_reducible rfl
                  try simp only [Act.put, sA, s0, sS]
                  refine wpAnyH_take (i := 5) (oi := { dst := some 153, op := Op.extract (Operand.tmp 148) 0, type := 27, pos := "outright.go:96", after := #[{ on := 4, ground := Ground.data }], guard := none }) (v := ?_) rfl (by kernel_rfl) (by kernel_rfl) (by kernel_rfl) (fun _ _ _ h => h) (Or.inl ⟨by rfl, ?_⟩) (by assumption) ?_
                  rotate_left
                  · intro w_ hSw; (try dsimp only at hSw); go_simp; first | done | with_reducible rfl
                  try simp only [Act.put, sA, s0, sS]
                  refine wpAnyH_take (i := 6) (oi := { dst := some 154, op := Op.extract (Operand.tmp 148) 1, type := 33, pos := "outright.go:96", after := #[{ on := 4, ground := Ground.data }, { on := 8, ground := Ground.gcOnly Departure.lateStores }], guard := none }) (v := ?_) rfl (by kernel_rfl) (by kernel_rfl) (by kernel_rfl) (fun _ _ _ h => h) (Or.inl ⟨by rfl, ?_⟩) (by assumption) ?_
                  rotate_left
                  · intro w_ hSw; (try dsimp only at hSw); go_simp; first | done | with_reducible rfl
                  try simp only [Act.put, sA, s0, sS]
                  refine wpAnyH_ready (rs := [8]) (by kernel_rfl) (by simp) ?_
                  refine AllReadyH.cons (o := { dst := none, op := Op.store 27 (Operand.tmp 19) (Operand.tmp 153), type := 0, pos := "outright.go:96", after := #[{ on := 7, ground := Ground.data }, { on := 5, ground := Ground.data }, { on := 3, ground := Ground.chain }, { on := 0, ground := Ground.phase }, { on := 1, ground := Ground.phase }, { on := 2, ground := Ground.phase }, { on := 3, ground := Ground.phase }, { on := 4, ground := Ground.phase }, { on := 5, ground := Ground.phase }, { on := 6, ground := Ground.textOnly Departure.lateStores }, { on := 7, ground := Ground.phase }], guard := none }) rfl (fun K hK => ?_) (AllReadyH.nil)
                  go_simp
                  skip
                  refine hK.out _ _ ?_ (fun hHeld => ?_)
                  · exact HKEEP.out _ (by repeat (first | exact HR.out | refine bl_drewN ?_ _ | refine bl_drew ?_ | refine bl_alloc ?_ _ | refine Below.setCell ?_ (by simp; try omega) _))
                  clear hK K
                  try simp only [Act.put, sA, s0, sS]
                  refine wpAnyH_take (i := 9) (oi := { dst := some 20, op := Op.assign (Operand.tmp 154), type := 33, pos := "outright.go:96", after := #[{ on := 6, ground := Ground.data }, { on := 8, ground := Ground.chain }, { on := 0, ground := Ground.phase }, { on := 1, ground := Ground.phase }, { on := 2, ground := Ground.phase }, { on := 3, ground := Ground.phase }, { on := 4, ground := Ground.phase }, { on := 5, ground := Ground.phase }, { on := 6, ground := Ground.phase }, { on := 7, ground := Ground.phase }, { on := 8, ground := Ground.phase }], guard := none }) (v := ?_) rfl (by kernel_rfl) (by kernel_rfl) (by kernel_rfl) (fun _ _ _ h => h) (Or.inl ⟨by rfl, ?_⟩) (by assumption) ?_
                  rotate_left
                  · intro w_ hSw; (try dsimp only at hSw); go_simp; first | done | with_reducible rfl
                  try simp only [Act.put, sA, s0, sS]
                  refine wpAnyH_done (by kernel_rfl) ?_ _
                  clear e0 e1 e2 f0 f1 f2
                  go_wp2_with fail
                  go_meet
                  exact ⟨_, A_, B_, c_, d_, rfl, rfl, Lib.hid (ob_put HO.out XG.out).2, Lib.hid (ob_put HO.out XG.out).1, Lib.hid (by repeat (first | exact HR.out | refine Below.setCell ?_ (by simp; try omega) _))⟩
              case rest =>
               obtain ⟨gt, At, Bt, ct, dt, rfl, rfl, BZ, BO, BC⟩ := hcut
               obtain ⟨m20, hw_⟩ : ∃ x : World, x = wc := ⟨_, rfl⟩
               subst hw_
               have F45 := Lib.hid (F44.out.below BC.out)
               clear F44
               have F46 := Lib.hid (HS.addB F45.out (g := gt) (t := 27) (cs := #[.string kt, .slice At (Jt).length ct, .slice Bt (Mt).length dt]) (BZ.out))
               clear F45
               have F47 := Lib.hid (F46.out.addO (BO.out))
               clear F46
               replace BB := Lib.hid (bl_then BB.out BC.out)
               clear BZ BO BC
               by_cases hs0 : xs = 0
               · have HS0 := Lib.hid hs0
                 have j1 : (xs != 0) = false := by simpa using hs0
                 have j2 : decide (xs = 0) = true := decide_eq_true hs0
                 clear hs0
                 by_cases ht0 : xt = 0
                 · have HASS := Lib.hid (EASS.out H12.out H23.out HS0.out ht0)
                   have j3 : (xt != 0) = false := by simpa using ht0
                   have j4 : decide (xt = 0) = true := decide_eq_true ht0
                   clear ht0
                   have ps_0 : m20.cell? ⟨gs, 0, none⟩ = some (.string ks) := (F47.out.blk 3 rfl).cell 0
                   have ps_1 : m20.cell? ⟨gs, 1, none⟩ = some (.slice As (Js).length cs) := (F47.out.blk 3 rfl).cell 1
                   have ps_2 : m20.cell? ⟨gs, 2, none⟩ = some (.slice Bs (Ms).length ds) := (F47.out.blk 3 rfl).cell 2
                   have pt_0 : m20.cell? ⟨gt, 0, none⟩ = some (.string kt) := (F47.out.blk 1 rfl).cell 0
                   have pt_1 : m20.cell? ⟨gt, 1, none⟩ = some (.slice At (Jt).length ct) := (F47.out.blk 1 rfl).cell 1
                   have pt_2 : m20.cell? ⟨gt, 2, none⟩ = some (.slice Bt (Mt).length dt) := (F47.out.blk 1 rfl).cell 2
                   have ps_lt : gs < m20.heap.size := (F47.out.blk 3 rfl).lt
                   have pt_lt : gt < m20.heap.size := (F47.out.blk 1 rfl).lt
                   go_wp2_with fail
                   clear ps_0 ps_1 ps_2 ps_lt pt_0 pt_1 pt_2 pt_lt
                   refine (lsameq true ((F47.out.own 2 rfl).d.rd jas).2.2 ((F47.out.own 2 rfl).s.rd jls).2.2 ((F47.out.own 0 rfl).d.rd jat).2.2 ((F47.out.own 0 rfl).s.rd jlt).2.2 rfl rfl rfl rfl HASS.out).mono ?_
                   rintro e u21 ⟨rfl, hb⟩
                   have F48 := Lib.hid (F47.out.below hb)
                   clear F47
                   replace BB := Lib.hid (bl_then BB.out hb)
                   clear hb
                   go_wp2
                   exact bodyPost_ret (v := .bool true) (by simp [results, Try.results9, go_sem]) rfl ⟨rfl, BB.out⟩
                 · have j3 : (xt != 0) = true := by simpa using ht0
                   have j4 : decide (xt = 0) = false := decide_eq_false ht0
                   clear ht0
                   go_wp2
                   exact bodyPost_ret (v := .bool true) (by simp [results, Try.results9, go_sem]) rfl ⟨rfl, BB.out⟩
               · have j1 : (xs != 0) = true := by simpa using hs0
                 have j2 : decide (xs = 0) = false := decide_eq_false hs0
                 clear hs0
                 go_wp2
                 exact bodyPost_ret (v := .bool true) (by simp [results, Try.results9, go_sem]) rfl ⟨rfl, BB.out⟩
           · have i1 : (x23 != 0) = true := by simpa using h23
             have i2 : decide (x23 = 0) = false := decide_eq_false h23
             clear h23
             go_wp2
             exact bodyPost_ret (v := .bool true) (by simp [results, Try.results9, go_sem]) rfl ⟨rfl, BB.out⟩
         · have f1 : (x12 == 0) = false := by simpa using h12
           have f2 : (x12 != 0) = true := by simpa using h12
           have f3 : (x21 == 0) = false := by simpa using (fun h => h12 (EIF.out.2 h) : ¬ x21 = 0)
           have f4 : decide (x12 = 0) = false := decide_eq_false h12
           have f5 : decide (x21 = 0) = false := decide_eq_false (fun h => h12 (EIF.out.2 h))
           clear h12
           go_wp2
           exact bodyPost_ret (v := .bool true) (by simp [results, Try.results9, go_sem]) rfl ⟨rfl, BB.out⟩
end Go.Proofs.Ytljfigikkajlnaa
