/- DERIVED. The program's bytes, Check, Pack of an object. -/
import Derived.Test.YtljfigikkajlnaaVFrmFix
import Derived.Test.YtljfigikkajlnaaVObUnpP
namespace Go.Proofs.Ytljfigikkajlnaa
open Go.RowKit Go.Lib
set_option linter.unusedVariables false
set_option linter.unusedSimpArgs false
theorem encO_any (A C : Option Addr) (n c m d : Nat) (a : List Dot) (l : List Sib) (t : ByteArray) (x : Int) (w : World) (ha : GR.Rd dotK w A a) (hl : GR.Rd sibK w C l) (hn : n = a.length) (hm : m = l.length) (hr : StR a l) (ht : encT a l = t) (hx : encE a l = x) :
 Calls Try.prog 106 #[.agg #[.slice A n c, .slice C m d]] w fun e w' => e = .returned (.tuple #[.string t, .int .i64 x]) ∧ Below w.heap.size w w' := by
 subst hn hm ht hx
 exact dvvEncode_any A C c d a l w ha hl (fun d hd => (hr.1 d hd).1) (fun x hx => (hr.2 x hx).1) (fun d hd => (hr.1 d hd).2) (fun x hx => (hr.2 x hx).2)
def bytT (key : ByteArray) (a : List Dot) (l : List Sib) : ByteArray := if chkE key a l = 0 then ⟨(encS a l).toArray⟩ else ⟨#[]⟩
set_option maxRecDepth 100000 in
set_option maxHeartbeats 6400000 in
theorem bytes_any (key : ByteArray) (A C : Option Addr) (n c m d : Nat) (a : List Dot) (l : List Sib) (w : World) (ha : GR.Rd dotK w A a) (hl : GR.Rd sibK w C l) (hn : n = a.length) (hm : m = l.length) (hr : StR a l) :
 Calls Try.prog 62 #[.string key, .agg #[.slice A n c, .slice C m d]] w fun e w' => e = .returned (.tuple #[.string (bytT key a l), .int .i64 (chkE key a l)]) ∧ Below w.heap.size w w' := by
 have HA := Lib.hid ha
 have HL := Lib.hid hl
 have HR := Lib.hid hr
 have HN := Lib.hid hn
 have HM := Lib.hid hm
 clear ha hl hr hn hm
 by_cases h1 : keyB key = true
 · have HK := Lib.hid h1
   by_cases h2 : staB a l = true
   · obtain ⟨t1, t2⟩ := encT_yes h2
     have T1 := Lib.hid t1
     have T2 := Lib.hid t2
     have hc : chkE key a l = if 280 < (encS a l).length then 82 else 0 := by rw [chkE, h1, h2]; rfl
     have hz := szL (encS a l)
     obtain ⟨k, hk⟩ : ∃ k, k = (encS a l).length := ⟨_, rfl⟩
     rw [← hk] at hc hz
     have HC := Lib.hid hc
     clear t1 t2 hk hc h1 h2
     by_cases h3 : 280 < k
     · have d1 : decide ((280 : Int) < (k : Int)) = true := by simp; omega
       have d2 : decide (280 < k) = true := by simp; omega
       have HV := Lib.hid (show chkE key a l = 82 by rw [HC.out, if_pos h3])
       have HB := Lib.hid (show bytT key a l = ⟨#[]⟩ by rw [bytT, HV.out]; rfl)
       clear h3
       go_enter Try.func62, Try.ntmps62
       go_wp2_with fail
       refine (segKey_yes key HK.out _).mono ?_
       rintro e w1 ⟨rfl, rfl⟩
       go_wp2_with fail
       refine (encO_any A C n c m d a l _ _ _ (HA.out.alloc _) (HL.out.alloc _) HN.out HM.out HR.out T1.out T2.out).mono ?_
       rintro e w2 ⟨rfl, hb⟩
       have B2 := Lib.hid (bl_then ((Below.refl _ _).alloc (Nat.le_refl _) _) hb)
       clear hb
       go_wp2
       go_ret2
       exact ⟨by rw [HV.out, HB.out]; rfl, B2.out⟩
     · have d1 : decide ((280 : Int) < (k : Int)) = false := by simp; omega
       have d2 : decide (280 < k) = false := by simp; omega
       have HV := Lib.hid (show chkE key a l = 0 by rw [HC.out, if_neg h3])
       have HB := Lib.hid (show bytT key a l = ⟨(encS a l).toArray⟩ by rw [bytT, HV.out]; rfl)
       clear h3
       go_enter Try.func62, Try.ntmps62
       go_wp2_with fail
       refine (segKey_yes key HK.out _).mono ?_
       rintro e w1 ⟨rfl, rfl⟩
       go_wp2_with fail
       refine (encO_any A C n c m d a l _ _ _ (HA.out.alloc _) (HL.out.alloc _) HN.out HM.out HR.out T1.out T2.out).mono ?_
       rintro e w2 ⟨rfl, hb⟩
       have B2 := Lib.hid (bl_then ((Below.refl _ _).alloc (Nat.le_refl _) _) hb)
       clear hb
       go_wp2
       go_ret2
       exact ⟨by rw [HV.out, HB.out]; rfl, B2.out⟩
   · have h2' : staB a l = false := by simpa using h2
     obtain ⟨t1, t2⟩ := encT_no h2'
     have T1 := Lib.hid t1
     have T2 := Lib.hid t2
     have HV := Lib.hid (show chkE key a l = 110 by rw [chkE, h1, h2']; rfl)
     have HB := Lib.hid (show bytT key a l = ⟨#[]⟩ by rw [bytT, HV.out]; rfl)
     clear t1 t2 h1 h2 h2'
     go_enter Try.func62, Try.ntmps62
     go_wp2_with fail
     refine (segKey_yes key HK.out _).mono ?_
     rintro e w1 ⟨rfl, rfl⟩
     go_wp2_with fail
     refine (encO_any A C n c m d a l _ _ _ (HA.out.alloc _) (HL.out.alloc _) HN.out HM.out HR.out T1.out T2.out).mono ?_
     rintro e w2 ⟨rfl, hb⟩
     have B2 := Lib.hid (bl_then ((Below.refl _ _).alloc (Nat.le_refl _) _) hb)
     clear hb
     go_wp2
     go_ret2
     exact ⟨by rw [HV.out, HB.out]; rfl, B2.out⟩
 · have h1' : keyB key = false := by simpa using h1
   have HK := Lib.hid h1'
   have HV := Lib.hid (show chkE key a l = 130 by rw [chkE, h1']; rfl)
   have HB := Lib.hid (show bytT key a l = ⟨#[]⟩ by rw [bytT, HV.out]; rfl)
   clear h1 h1'
   go_enter Try.func62, Try.ntmps62
   go_wp2_with fail
   refine (segKey_no key HK.out _).mono ?_
   rintro e w1 ⟨rfl, rfl⟩
   go_wp2
   go_ret2
   exact ⟨by rw [HV.out, HB.out]; rfl, (Below.refl _ _).alloc (Nat.le_refl _) _⟩
theorem check_any (key : ByteArray) (A C : Option Addr) (n c m d : Nat) (a : List Dot) (l : List Sib) (w : World) (ha : GR.Rd dotK w A a) (hl : GR.Rd sibK w C l) (hn : n = a.length) (hm : m = l.length) (hr : StR a l) :
 Calls Try.prog 29 #[.agg #[.string key, .slice A n c, .slice C m d]] w fun e w' => e = .returned (.int .i64 (chkE key a l)) ∧ Below w.heap.size w w' := by
 have HA := Lib.hid ha
 have HL := Lib.hid hl
 have HR := Lib.hid hr
 have HN := Lib.hid hn
 have HM := Lib.hid hm
 clear ha hl hr hn hm
 go_enter Try.func29, Try.ntmps29
 go_wp2_with fail
 refine (bytes_any key A C n c m d a l _ (HA.out.alloc _) (HL.out.alloc _) HN.out HM.out HR.out).mono ?_
 rintro e w2 ⟨rfl, hb⟩
 have B2 := Lib.hid (bl_then ((Below.refl _ _).alloc (Nat.le_refl _) _) hb)
 clear hb
 go_wp2
 go_ret
 exact ⟨rfl, B2.out⟩
theorem with_no_pack (p q : Value) (key : ByteArray) (A C : Option Addr) (n c m d : Nat) (a : List Dot) (l : List Sib) (w : World) (ha : GR.Rd dotK w A a) (hl : GR.Rd sibK w C l) (hn : n = a.length) (hm : m = l.length) (hr : StR a l) (hx : chkE key a l ≠ 0) :
 Calls Try.prog 54 #[.agg #[.string key, .slice A n c, .slice C m d], .func (.func 55) #[] #[p, q]] w fun e w' => e = .returned (.int .i64 (chkE key a l)) ∧ Below w.heap.size w w' := by
 have HA := Lib.hid ha
 have HL := Lib.hid hl
 have HR := Lib.hid hr
 have HN := Lib.hid hn
 have HM := Lib.hid hm
 clear ha hl hr hn hm
 obtain ⟨x, hy⟩ : ∃ x, chkE key a l = x := ⟨_, rfl⟩
 rw [hy] at hx ⊢
 have HY := Lib.hid hy
 have q1 : (x != 0) = true := by simpa using hx
 have q2 : decide (x = 0) = false := by simpa using hx
 clear hy hx
 go_enter Try.func54, Try.ntmps54
 go_wp2_with fail
 refine (bytes_any key A C n c m d a l _ (HA.out.alloc _) (HL.out.alloc _) HN.out HM.out HR.out).mono ?_
 rintro e w2 ⟨rfl, hb⟩
 rw [HY.out]
 have B2 := Lib.hid (bl_then ((Below.refl _ _).alloc (Nat.le_refl _) _) hb)
 clear hb
 go_wp2
 go_ret
 exact ⟨rfl, B2.out⟩
theorem with_yes_pack (p q : Value) (Q : Int → World → Prop) (key : ByteArray) (A C : Option Addr) (n c m d : Nat) (a : List Dot) (l : List Sib) (w : World) (ha : GR.Rd dotK w A a) (hl : GR.Rd sibK w C l) (hn : n = a.length) (hm : m = l.length) (hr : StR a l) (hx : chkE key a l = 0)
 (h : ∀ W, Below w.heap.size w W → Calls Try.prog 55 #[.string ⟨(encS a l).toArray⟩, p, q] W fun e w' => ∃ x, e = .returned (.int .i64 x) ∧ Q x w') :
 Calls Try.prog 54 #[.agg #[.string key, .slice A n c, .slice C m d], .func (.func 55) #[] #[p, q]] w fun e w' => ∃ x, e = .returned (.int .i64 x) ∧ Q x w' := by
 have hb0 : bytT key a l = ⟨(encS a l).toArray⟩ := by rw [bytT, if_pos hx]
 have HA := Lib.hid ha
 have HL := Lib.hid hl
 have HR := Lib.hid hr
 have HN := Lib.hid hn
 have HM := Lib.hid hm
 have HX := Lib.hid hx
 have HF := Lib.hid h
 have HB0 := Lib.hid hb0
 clear ha hl hr hn hm hx h hb0
 go_enter Try.func54, Try.ntmps54
 go_wp2_with fail
 refine (bytes_any key A C n c m d a l _ (HA.out.alloc _) (HL.out.alloc _) HN.out HM.out HR.out).mono ?_
 rintro e w2 ⟨rfl, hb⟩
 rw [HX.out, HB0.out]
 have B2 := Lib.hid (bl_then ((Below.refl _ _).alloc (Nat.le_refl _) _) hb)
 clear hb
 go_wp2_with fail
 refine (HF.out _ B2.out).mono ?_
 rintro e w3 ⟨x, rfl, hq⟩
 have HQ := Lib.hid hq
 clear hq
 go_wp2
 go_ret
 exact ⟨x, rfl, HQ.out⟩
theorem with_no_form (p q : Value) (key : ByteArray) (A C : Option Addr) (n c m d : Nat) (a : List Dot) (l : List Sib) (w : World) (ha : GR.Rd dotK w A a) (hl : GR.Rd sibK w C l) (hn : n = a.length) (hm : m = l.length) (hr : StR a l) (hx : chkE key a l ≠ 0) :
 Calls Try.prog 54 #[.agg #[.string key, .slice A n c, .slice C m d], .func (.func 63) #[] #[p, q]] w fun e w' => e = .returned (.int .i64 (chkE key a l)) ∧ Below w.heap.size w w' := by
 have HA := Lib.hid ha
 have HL := Lib.hid hl
 have HR := Lib.hid hr
 have HN := Lib.hid hn
 have HM := Lib.hid hm
 clear ha hl hr hn hm
 obtain ⟨x, hy⟩ : ∃ x, chkE key a l = x := ⟨_, rfl⟩
 rw [hy] at hx ⊢
 have HY := Lib.hid hy
 have q1 : (x != 0) = true := by simpa using hx
 have q2 : decide (x = 0) = false := by simpa using hx
 clear hy hx
 go_enter Try.func54, Try.ntmps54
 go_wp2_with fail
 refine (bytes_any key A C n c m d a l _ (HA.out.alloc _) (HL.out.alloc _) HN.out HM.out HR.out).mono ?_
 rintro e w2 ⟨rfl, hb⟩
 rw [HY.out]
 have B2 := Lib.hid (bl_then ((Below.refl _ _).alloc (Nat.le_refl _) _) hb)
 clear hb
 go_wp2
 go_ret
 exact ⟨rfl, B2.out⟩
theorem with_yes_form (p q : Value) (Q : Int → World → Prop) (key : ByteArray) (A C : Option Addr) (n c m d : Nat) (a : List Dot) (l : List Sib) (w : World) (ha : GR.Rd dotK w A a) (hl : GR.Rd sibK w C l) (hn : n = a.length) (hm : m = l.length) (hr : StR a l) (hx : chkE key a l = 0)
 (h : ∀ W, Below w.heap.size w W → Calls Try.prog 63 #[.string ⟨(encS a l).toArray⟩, p, q] W fun e w' => ∃ x, e = .returned (.int .i64 x) ∧ Q x w') :
 Calls Try.prog 54 #[.agg #[.string key, .slice A n c, .slice C m d], .func (.func 63) #[] #[p, q]] w fun e w' => ∃ x, e = .returned (.int .i64 x) ∧ Q x w' := by
 have hb0 : bytT key a l = ⟨(encS a l).toArray⟩ := by rw [bytT, if_pos hx]
 have HA := Lib.hid ha
 have HL := Lib.hid hl
 have HR := Lib.hid hr
 have HN := Lib.hid hn
 have HM := Lib.hid hm
 have HX := Lib.hid hx
 have HF := Lib.hid h
 have HB0 := Lib.hid hb0
 clear ha hl hr hn hm hx h hb0
 go_enter Try.func54, Try.ntmps54
 go_wp2_with fail
 refine (bytes_any key A C n c m d a l _ (HA.out.alloc _) (HL.out.alloc _) HN.out HM.out HR.out).mono ?_
 rintro e w2 ⟨rfl, hb⟩
 rw [HX.out, HB0.out]
 have B2 := Lib.hid (bl_then ((Below.refl _ _).alloc (Nat.le_refl _) _) hb)
 clear hb
 go_wp2_with fail
 refine (HF.out _ B2.out).mono ?_
 rintro e w3 ⟨x, rfl, hq⟩
 have HQ := Lib.hid hq
 clear hq
 go_wp2
 go_ret
 exact ⟨x, rfl, HQ.out⟩
theorem fix2_pre (n : Nat) : fix2 n = (prefS n).data.toList := by
 have h : ∀ n : Nat, UInt8.ofNat (n % 256) = UInt8.ofNat n := fun n => UInt8.toNat.inj (by simp)
 rw [pre_bytes, fix2, h]
set_option maxRecDepth 100000 in
set_option maxHeartbeats 6400000 in
theorem pack1_any (o g : Nat) (key : ByteArray) (A C : Option Addr) (n c m d : Nat) (a : List Dot) (l : List Sib) (W : World) (hn : n = a.length) (hc : chkE key a l = 0)
 (bo : GR.Blk W o 27 #[.string key, .slice A n c, .slice C m d]) (bg : GR.Blk W g 48 #[.string ⟨#[]⟩, .string ⟨#[]⟩]) :
 Calls Try.prog 55 #[.string ⟨(encS a l).toArray⟩, .pointer (some ⟨o, 0, none⟩), .pointer (some ⟨g, 0, none⟩)] W fun e w' => ∃ x, e = .returned (.int .i64 x) ∧ x = packE key a l ∧ GR.Blk w' g 48 #[.string (packC key a l).1, .string (packC key a l).2] ∧ Chg (fun k => k = g) W w' := by
 obtain ⟨k1, k2, k3⟩ := chk_cases hc
 have K1 := Lib.hid k1
 have ksz := Lib.hid ((keyB_iff key).1 k1)
 have HNN := Lib.hid hn
 have HC := Lib.hid hc
 have HS := Lib.hid k2
 have o0 : W.cell? ⟨o, 0, none⟩ = some (.string key) := bo.cell 0
 have o1 : W.cell? ⟨o, 1, none⟩ = some (.slice A n c) := bo.cell 1
 have o2 : W.cell? ⟨o, 2, none⟩ = some (.slice C m d) := bo.cell 2
 have BO := Lib.hid bo
 have BG := Lib.hid bg
 obtain ⟨t, ht⟩ : ∃ t : ByteArray, t = ⟨(encS a l).toArray⟩ := ⟨_, rfl⟩
 rw [← ht]
 have HT := Lib.hid ht
 clear k1 k2 k3 hn hc bo bg ht
 go_enter Try.func55, Try.ntmps55
 go_wp2_with fail
 refine (absent_any A C n c m d _).mono ?_
 rintro e w1 ⟨rfl, hb⟩
 have B1 := Lib.hid hb
 have O1 := Lib.hid (BO.out.below hb BO.out.lt)
 have G1 := Lib.hid (BG.out.below hb BG.out.lt)
 clear hb o0 o1 o2
 by_cases h0 : n = 0
 · have hal : a.length = 0 := by rw [← HNN.out]; exact h0
   have HP := Lib.hid (show packE key a l = 110 by rw [packE, if_pos HC.out, sta_abs HS.out hal]; rfl)
   have HD := Lib.hid (show packC key a l = (⟨#[]⟩, ⟨#[]⟩) by rw [packC, HP.out]; rfl)
   rw [decide_eq_true h0]
   clear h0 hal
   go_wp2
   go_ret
   exact ⟨110, rfl, HP.out.symm, by rw [HD.out]; exact G1.out, chg_bl B1.out⟩
 · have hal : a.length ≠ 0 := by rw [← HNN.out]; exact h0
   have HP := Lib.hid (show packE key a l = 0 by rw [packE, if_pos HC.out, if_neg (by simp [absB, hal])])
   have HD := Lib.hid (show packC key a l = (packK key, t) by rw [packC, HP.out, HT.out]; rfl)
   rw [decide_eq_false h0]
   clear h0 hal
   obtain ⟨P, hP⟩ : ∃ P, P = placeN key := ⟨_, rfl⟩
   have hlt : P < 4096 := by rw [hP]; exact (placeN_lt key).1
   have hPI : placeI key = (P : Int) := by rw [hP]; exact (placeN_lt key).2.symm
   have HPN := Lib.hid hP
   have HPI := Lib.hid hPI
   clear hP hPI
   have o0 : w1.cell? ⟨o, 0, none⟩ = some (.string key) := O1.out.cell 0
   go_wp2_with fail
   clear o0
   refine (place_yes key K1.out _).mono ?_
   rintro e w2 ⟨rfl, hb⟩
   rw [HPI.out]
   have B2 := Lib.hid (bl_then B1.out hb)
   have O2 := Lib.hid (O1.out.below hb O1.out.lt)
   have G2 := Lib.hid (G1.out.below hb G1.out.lt)
   clear hb
   go_wp2_with fail
   refine (newWriter_any _).mono ?_
   rintro e w3 ⟨rfl, hw3, hb⟩
   have W3 := Lib.hid hw3
   have B3 := Lib.hid hb
   have O3 := Lib.hid (O2.out.below hb O2.out.lt)
   clear hw3 hb
   have e6 : IntKind.u64.wrap (P : Int) = (P : Int) := IntWalk.u64_in _ (by omega)
   go_wp2_with fail
   refine (fixed2_any w2.heap.size w2.heap.size _ P (by omega) _ W3.out (by simp)).mono ?_
   rintro e w4 ⟨rfl, hw4, hb⟩
   have W4 := Lib.hid hw4
   have B4 := Lib.hid (B3.out.trans hb)
   have O4 := Lib.hid (O2.out.below B4.out O2.out.lt)
   clear hw4 hb e6
   have o0 : w4.cell? ⟨o, 0, none⟩ = some (.string key) := O4.out.cell 0
   go_wp2_with fail
   clear o0
   refine (raw_any w2.heap.size w2.heap.size _ key _ W4.out (by have := ksz.out.2; simp [fix2]; omega)).mono ?_
   rintro e w5 ⟨rfl, hw5, hb, _⟩
   have W5 := Lib.hid hw5
   have B5 := Lib.hid (B4.out.trans hb)
   clear hw5 hb
   have hpk : (⟨([] ++ fix2 P ++ key.data.toList).toArray⟩ : ByteArray) = packK key := by
    apply ByteArray.ext
    apply Array.toList_inj.1
    rw [packK, ← HPN.out, fix2_pre]
    simp
   go_wp2_with fail
   refine (told_any w2.heap.size w2.heap.size _ _ W5.out).mono ?_
   rintro e w6 ⟨rfl, rfl⟩
   rw [hpk]
   clear hpk
   have G5 := Lib.hid (G2.out.below B5.out G2.out.lt)
   have g0 : w5.cell? ⟨g, 0, none⟩ = some (.string ⟨#[]⟩) := G5.out.cell 0
   have g1 : w5.cell? ⟨g, 1, none⟩ = some (.string ⟨#[]⟩) := G5.out.cell 1
   have f0 := G5.out.frozen 0
   have f1 := G5.out.frozen 1
   go_wp2
   go_ret
   exact ⟨0, rfl, HP.out.symm, by rw [HD.out]; exact (G5.out.set_ 0 _).set_ 1 _, ((chg_bl (bl_then B2.out B5.out)).then (chg_set (S := fun k => k = g) 0 _ (.inl rfl))).then (chg_set (S := fun k => k = g) 1 _ (.inl rfl))⟩
set_option maxRecDepth 100000 in
set_option maxHeartbeats 6400000 in
theorem pack_any (key : ByteArray) (A C : Option Addr) (n c m d : Nat) (a : List Dot) (l : List Sib) (w : World) (ha : GR.Rd dotK w A a) (hl : GR.Rd sibK w C l) (hn : n = a.length) (hm : m = l.length) (hr : StR a l) :
 Calls Try.prog 25 #[.agg #[.string key, .slice A n c, .slice C m d]] w fun e w' => e = .returned (.tuple #[.agg #[.string (packC key a l).1, .string (packC key a l).2], .int .i64 (packE key a l)]) ∧ Below w.heap.size w w' := by
 obtain ⟨X, hX⟩ : ∃ X, packE key a l = X := ⟨_, rfl⟩
 obtain ⟨⟨q1, q2⟩, hq⟩ : ∃ q, packC key a l = q := ⟨_, rfl⟩
 rw [hX, hq]
 have HA := Lib.hid ha
 have HL := Lib.hid hl
 have HR := Lib.hid hr
 have HN := Lib.hid hn
 have HM := Lib.hid hm
 have HXX := Lib.hid hX
 have HQQ := Lib.hid hq
 clear ha hl hr hn hm hX hq
 go_enter Try.func25, Try.ntmps25
 go_wp2_with fail
 obtain ⟨W1, hW1⟩ : ∃ W1 : World, W1 = ((w.alloc (.cells #[.string key, .slice A n c, .slice C m d] 27)).alloc (.cells #[.string ⟨#[]⟩, .string ⟨#[]⟩] 48)).alloc (.cells #[.string ⟨#[]⟩, .string ⟨#[]⟩] 48) := ⟨_, rfl⟩
 rw [← hW1]
 have LW : Hid (Below w.heap.size w W1) := Lib.hid (by rw [hW1]; exact (by repeat (first | exact Below.refl _ _ | refine bl_drewN ?_ _ | refine bl_drew ?_ | refine bl_alloc ?_ _)))
 have XO : Hid (GR.Blk W1 w.heap.size 27 #[.string key, .slice A n c, .slice C m d]) := Lib.hid (by rw [hW1]; exact ((GR.Blk.new _ _ _).alloc _).alloc _)
 have XR : Hid (GR.Blk W1 (w.heap.size + 1) 48 #[.string ⟨#[]⟩, .string ⟨#[]⟩]) := Lib.hid (by rw [hW1]; exact (new_at _ _ _ (by simp)).alloc _)
 have XC : Hid (GR.Blk W1 (w.heap.size + 1 + 1) 48 #[.string ⟨#[]⟩, .string ⟨#[]⟩]) := Lib.hid (by rw [hW1]; exact new_at _ _ _ (by simp))
 clear hW1
 have rc : w.heap.size + 1 ≠ w.heap.size + 1 + 1 := by omega
 by_cases h1 : chkE key a l = 0
 · have HX := Lib.hid h1
   clear h1
   refine (with_yes_pack _ _ (fun x w' => x = X ∧ GR.Blk w' (w.heap.size + 1 + 1) 48 #[.string q1, .string q2] ∧ Chg (fun k => k = w.heap.size + 1 + 1) W1 w') key A C n c m d a l _ (HA.out.below LW.out) (HL.out.below LW.out) HN.out HM.out HR.out HX.out (fun W hb => ?_)).mono ?_
   · refine (pack1_any w.heap.size (w.heap.size + 1 + 1) key A C n c m d a l W HN.out HX.out (XO.out.below hb XO.out.lt) (XC.out.below hb XC.out.lt)).mono ?_
     rintro e w' ⟨x, he, hx, hg, hc⟩
     rw [HQQ.out] at hg
     rw [HXX.out] at hx
     exact ⟨x, he, hx, hg, (chg_bl hb).then hc⟩
   · rintro e w2 ⟨x, rfl, hx, hg, hc⟩
     have R2 := Lib.hid (blk_chg XR.out hc rc)
     have G2 := Lib.hid hg
     have B2 := Lib.hid (LW.out.trans (hc.below LW.out.size (fun k e => by subst e; omega)))
     subst hx
     clear hg hc
     have g0 : w2.cell? ⟨w.heap.size + 1 + 1, 0, none⟩ = some (.string q1) := G2.out.cell 0
     have g1 : w2.cell? ⟨w.heap.size + 1 + 1, 1, none⟩ = some (.string q2) := G2.out.cell 1
     have r0 : w2.cell? ⟨w.heap.size + 1, 0, none⟩ = some (.string ⟨#[]⟩) := R2.out.cell 0
     have r1 : w2.cell? ⟨w.heap.size + 1, 1, none⟩ = some (.string ⟨#[]⟩) := R2.out.cell 1
     have r2 := R2.out.frozen 0
     have r3 := R2.out.frozen 1
     go_wp2
     exact bodyPost_ret (v := .tuple #[.agg #[.string q1, .string q2], .int .i64 x]) (by simp [results, Try.results25, go_sem, r0, r1, r2, r3]) rfl ⟨rfl, (B2.out.setCell (p := ⟨w.heap.size + 1, 0, none⟩) (by show w.heap.size ≤ w.heap.size + 1; omega) _).setCell (p := ⟨w.heap.size + 1, 1, none⟩) (by show w.heap.size ≤ w.heap.size + 1; omega) _⟩
 · have HP := Lib.hid (show packE key a l = chkE key a l by rw [packE, if_neg h1])
   have HD := Lib.hid (show packC key a l = (⟨#[]⟩, ⟨#[]⟩) by rw [packC, HP.out, if_neg h1])
   refine (with_no_pack _ _ key A C n c m d a l _ (HA.out.below LW.out) (HL.out.below LW.out) HN.out HM.out HR.out h1).mono ?_
   rintro e w2 ⟨rfl, hb⟩
   have R2 := Lib.hid (XR.out.below hb XR.out.lt)
   have G2 := Lib.hid (XC.out.below hb XC.out.lt)
   have B2 := Lib.hid (bl_then LW.out hb)
   have hq := HQQ.out
   rw [HD.out] at hq
   injection hq with hq1 hq2
   subst hq1 hq2
   obtain rfl : X = chkE key a l := by rw [← HXX.out, HP.out]
   clear hb h1
   have g0 : w2.cell? ⟨w.heap.size + 1 + 1, 0, none⟩ = some (.string ⟨#[]⟩) := G2.out.cell 0
   have g1 : w2.cell? ⟨w.heap.size + 1 + 1, 1, none⟩ = some (.string ⟨#[]⟩) := G2.out.cell 1
   have r0 : w2.cell? ⟨w.heap.size + 1, 0, none⟩ = some (.string ⟨#[]⟩) := R2.out.cell 0
   have r1 : w2.cell? ⟨w.heap.size + 1, 1, none⟩ = some (.string ⟨#[]⟩) := R2.out.cell 1
   have r2 := R2.out.frozen 0
   have r3 := R2.out.frozen 1
   go_wp2
   exact bodyPost_ret (v := .tuple #[.agg #[.string ⟨#[]⟩, .string ⟨#[]⟩], .int .i64 (chkE key a l)]) (by simp [results, Try.results25, go_sem, r0, r1, r2, r3]) rfl ⟨rfl, (B2.out.setCell (p := ⟨w.heap.size + 1, 0, none⟩) (by show w.heap.size ≤ w.heap.size + 1; omega) _).setCell (p := ⟨w.heap.size + 1, 1, none⟩) (by show w.heap.size ≤ w.heap.size + 1; omega) _⟩
end Go.Proofs.Ytljfigikkajlnaa
