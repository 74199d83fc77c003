/- DERIVED. vector.Take: a vector out of a Reader. -/
import Derived.Test.YtljfigikkajlnaaVDvDecP
import Derived.Test.YtljfigikkajlnaaVm11
import Derived.Test.YtljfigikkajlnaaVRdW
namespace Go.Proofs.Ytljfigikkajlnaa
open Go.RowKit Go.Lib
set_option linter.unusedVariables false
set_option linter.unusedSimpArgs false
theorem runint_at (g : Nat) (b : ByteArray) (most : Nat) (s : RS) (v : Nat) (s' : RS) (w : World) (h : Rdr w g b s) (hb : b.size ≤ 140737488355328) (hm : most < 18446744073709551616) (hr : rdU b.data.toList most s = (v, s')) :
 Calls Try.prog 94 #[.pointer (some ⟨g, 0, none⟩), .int .u64 most] w fun e w' => e = .returned (.int .u64 v) ∧ Rdr w' g b s' ∧ w.grownBy w' (some g) := by
 have := runint_any g b most s w h hb hm
 rw [hr] at this
 exact this
theorem own_g {α : Type} {K : GR.Kind α} {w w' : World} {B g : Nat} {t : TypeId} {cs : Array Value} {v : Value} {l : List α} (h : GR.Own K w B v l) (bg : GR.Blk w g t cs) (hne : K.e ≠ t) (hg : w.grownBy w' (some g)) : GR.Own K w' B v l :=
 h.grown hg (.inr (GR.own_blk_ne h bg hne))
theorem takeV_bad {b : List UInt8} {s s1 s2 : RS} {N : Nat} (h : rdU b 64 s = (N, s1)) (h2 : (rdDots b N [] s1).2 = s2) (he : s2.e ≠ 0) : takeV b s = ([], s2) := by
 rw [takeV, h]
 simp only
 rw [h2, if_neg he]
theorem takeV_not {b : List UInt8} {s s1 s2 : RS} {N : Nat} {l : List Dot} (h : rdU b 64 s = (N, s1)) (h2 : rdDots b N [] s1 = (l, s2)) (he : s2.e = 0) (hv : vecB l = false) : takeV b s = ([], ⟨s2.n, 100⟩) := by
 rw [takeV, h]
 simp only
 rw [h2, if_pos he, hv]
 rfl
theorem takeV_yes {b : List UInt8} {s s1 s2 : RS} {N : Nat} {l : List Dot} (h : rdU b 64 s = (N, s1)) (h2 : rdDots b N [] s1 = (l, s2)) (he : s2.e = 0) (hv : vecB l = true) : takeV b s = (l, s2) := by
 rw [takeV, h]
 simp only
 rw [h2, if_pos he, hv]
 rfl
set_option maxRecDepth 100000 in
set_option maxHeartbeats 6400000 in
theorem vtake_any (g : Nat) (b : ByteArray) (s : RS) (w : World) (h : Rdr w g b s) (hb : b.size ≤ 140737488355328) :
 Calls Try.prog 93 #[.pointer (some ⟨g, 0, none⟩)] w fun e w' => ∃ v, e = .returned v ∧ GR.Own dotK w' w.heap.size v (takeV b.data.toList s).1 ∧ Rdr w' g b (takeV b.data.toList s).2 ∧ w.grownBy w' (some g) := by
 obtain ⟨i0, hi0, hz0, hz1, hz2⟩ := info_parts dot_info
 obtain ⟨N, s1, E1⟩ : ∃ N s1, rdU b.data.toList 64 s = (N, s1) := ⟨_, _, rfl⟩
 have hN : N ≤ 64 := by have := rdU_le b.data.toList 64 s; rw [E1] at this; exact this
 have HE1 := Lib.hid E1
 have H := Lib.hid h
 clear h
 clear E1
 go_enter Try.func93, Try.ntmps93
 go_wp2_with fail
 refine (runint_at g b 64 s N s1 _ H.out hb (by omega) HE1.out).mono ?_
 rintro e w1 ⟨rfl, h1, g1⟩
 have H1 := Lib.hid h1
 have G1 := Lib.hid g1
 clear h1 g1
 go_wp2
 go_loopw [3, 8] (fun vl ii w' => ∃ (k : Nat) (acc : List Dot) (st : RS), ii = .int .u64 k ∧ k ≤ N ∧ Hid (acc.length = k) ∧ Hid (∀ d ∈ acc, 0 ≤ d.n) ∧ Hid (GR.Own dotK w' w.heap.size vl acc) ∧ Hid (Rdr w' g b st) ∧ Hid (rdDots b.data.toList N [] s1 = rdDots b.data.toList (N - k) acc st) ∧ Hid (w.grownBy w' (some g))) (fun _ ii _ => N - (intOf ii).toNat)
 case atStart => exact ⟨0, [], s1, rfl, Nat.zero_le _, Lib.hid rfl, Lib.hid (fun d hd => (by cases hd)), Lib.hid (GR.Own.nil _ _ _), H1, Lib.hid rfl, G1⟩
 case round =>
  obtain ⟨k, acc, st, rfl, hk, hal, hap, ho, hR, hD, hG⟩ := hrel
  have hsz := hG.out.size
  by_cases hlt : k < N
  · have l1 : decide ((k : Int) < (N : Int)) = true := by simp; omega
    have l2 : decide (k < N) = true := by simp; omega
    obtain ⟨p, st2, E2⟩ : ∃ p st2, rdU b.data.toList 4294967295 st = (p, st2) := ⟨_, _, rfl⟩
    obtain ⟨q, st3, E3⟩ : ∃ q st3, rdU b.data.toList 1099511627776 st2 = (q, st3) := ⟨_, _, rfl⟩
    have hp : p ≤ 4294967295 := by have := rdU_le b.data.toList 4294967295 st; rw [E2] at this; exact this
    have hq : q ≤ 1099511627776 := by have := rdU_le b.data.toList 1099511627776 st2; rw [E3] at this; exact this
    have HD2 : Hid (rdDots b.data.toList N [] s1 = rdDots b.data.toList (N - (k + 1)) (acc ++ [⟨p, q⟩]) st3) := Lib.hid (by
     rw [hD.out, show N - k = N - (k + 1) + 1 by omega, rdDots, E2]
     simp only
     rw [E3])
    have e1 : IntKind.u32.wrap (p : Int) = (p : Int) := by rw [IntKind.wrap_u32]; omega
    have HE2 := Lib.hid E2
    have HE3 := Lib.hid E3
    clear E2 E3
    go_wp2_with fail
    refine (runint_at g b 4294967295 st p st2 _ hR.out hb (by omega) HE2.out).mono ?_
    rintro e w2 ⟨rfl, h2, g2⟩
    have R2 := Lib.hid h2
    have O2 := Lib.hid (own_g ho.out hR.out.1 (by decide) g2)
    have G2 := Lib.hid (grown_trans hG.out g2)
    clear h2 g2
    go_wp2_with fail
    refine (runint_at g b 1099511627776 st2 q st3 _ R2.out hb (by omega) HE3.out).mono ?_
    rintro e w3 ⟨rfl, h3, g3⟩
    have R3 := Lib.hid h3
    have O3 := Lib.hid (own_g O2.out R2.out.1 (by decide) g3)
    have G3 := Lib.hid (grown_trans G2.out g3)
    clear h3 g3
    go_wp2_with fail
    refine (rerr_any g b st3 _ R3.out).mono ?_
    rintro e w_ ⟨rfl, rfl⟩
    by_cases h0 : st3.e = 0
    · rw [h0]
      clear h0
      have hs3 : w.heap.size ≤ w3.heap.size := G3.out.size
      have HLL : Hid ((acc.length + 1) * 16 ≤ 140737488355328) := Lib.hid (by have := hal.out; omega)
      go_wp2_with (at_builtin; refine GR.app_one (K := dotK) rfl (.tmp 17) (.tmp 22) _ rfl Try.underlying22 hi0 hz0 hz1 hz2 rfl w.heap.size _ acc ⟨p, q⟩ rfl O3.out rfl HLL.out hs3 ?_; intro v4 w4 ho4 hg4 hat4; have O4 := Lib.hid ho4; have R4 := Lib.hid (show Rdr w4 g b st3 from ⟨R3.out.1.grown hg4 (fun e => GR.own_blk_ne O3.out R3.out.1 (by decide) e.symm), R3.out.2⟩); have G4 := Lib.hid (GR.grown_step G3.out hg4 (.inr (fun b hb => (O3.out.lt b hb).1))); clear ho4 hg4 hat4)
      go_roundw
      case rel => exact ⟨k + 1, _, st3, by go_num, by omega, Lib.hid (by rw [List.length_append, hal.out]; rfl), Lib.hid (fun d hd => by
       rcases List.mem_append.1 hd with hd | hd
       · exact hap.out d hd
       · rw [List.mem_singleton] at hd; subst hd; show (0 : Int) ≤ (q : Int); omega), O4, R4, HD2, G4⟩
      case measure => simp [intOf]; omega
    · have HT : Hid (takeV b.data.toList s = ([], st3)) := Lib.hid (takeV_bad HE1.out (by rw [HD2.out]; exact rdDots_err _ _ _ _ h0) h0)
      have q1 : (st3.e != 0) = true := by simpa using h0
      have q2 : (st3.e == 0) = false := by simpa using h0
      have q3 : decide (st3.e = 0) = false := by simpa using h0
      clear h0
      go_wp2_with fail
      refine (rerr_any g b st3 _ R3.out).mono ?_
      rintro e w_ ⟨rfl, rfl⟩
      go_wp2_with fail
      refine (rerr_any g b st3 _ R3.out).mono ?_
      rintro e w_ ⟨rfl, rfl⟩
      go_wp2
      go_ret
      rw [HT.out]
      exact ⟨_, rfl, GR.Own.nil _ _ _, R3.out, G3.out⟩
  · obtain rfl : k = N := by omega
    have HD3 : Hid (rdDots b.data.toList k [] s1 = (acc, st)) := Lib.hid (by rw [hD.out, Nat.sub_self, rdDots])
    by_cases h0 : st.e = 0
    · obtain ⟨A, n, c, rfl⟩ := own_slice ho.out (by have := hal.out; show acc.length * 16 ≤ _; omega)
      obtain ⟨e8, _, r8⟩ := ho.out.rd (by have := hal.out; show acc.length * 16 ≤ _; omega)
      have HR8 := Lib.hid r8
      have HH0 := Lib.hid h0
      have HV2 : Hid (Calls Try.prog 82 #[.slice A n c] wr fun e w' => e = .returned (.bool (vecB acc)) ∧ Below wr.heap.size wr w') := Lib.hid (by rw [e8]; exact vecValid_any A c acc _ HR8.out hap.out)
      clear r8 e8
      go_wp2_with fail
      refine (rerr_any g b st _ hR.out).mono ?_
      rintro e w_ ⟨rfl, rfl⟩
      rw [h0]
      clear h0
      go_wp2_with fail
      refine (HV2.out).mono ?_
      rintro e w5 ⟨rfl, h5⟩
      have R5 := Lib.hid (hR.out.below h5)
      have O5 := Lib.hid (ho.out.below h5)
      have G5 := Lib.hid (grown_trans hG.out (GR.grown_of_bl h5 (some g)))
      clear h5
      by_cases hv : vecB acc = true
      · have HT : Hid (takeV b.data.toList s = (acc, st)) := Lib.hid (takeV_yes HE1.out HD3.out HH0.out hv)
        rw [hv]
        clear hv
        go_wp2_with fail
        refine (rerr_any g b st _ R5.out).mono ?_
        rintro e w_ ⟨rfl, rfl⟩
        rw [HH0.out]
        go_wp2
        go_ret
        rw [HT.out]
        exact ⟨_, rfl, O5.out, R5.out, G5.out⟩
      · have hv' : vecB acc = false := by simpa using hv
        have HT : Hid (takeV b.data.toList s = ([], ⟨st.n, 100⟩)) := Lib.hid (takeV_not HE1.out HD3.out HH0.out hv')
        rw [hv']
        clear hv hv'
        go_wp2_with fail
        refine (rfail_any g b st 100 _ R5.out HH0.out).mono ?_
        rintro e w6 ⟨rfl, h6, g6⟩
        have R6 := Lib.hid h6
        have G6 := Lib.hid (grown_trans G5.out g6)
        clear h6 g6
        go_wp2_with fail
        refine (rerr_any g b _ _ R6.out).mono ?_
        rintro e w_ ⟨rfl, rfl⟩
        go_wp2
        go_ret
        rw [HT.out]
        exact ⟨_, rfl, GR.Own.nil _ _ _, R6.out, G6.out⟩
    · have HT : Hid (takeV b.data.toList s = ([], st)) := Lib.hid (takeV_bad HE1.out (by rw [HD3.out]) h0)
      have q1 : (st.e != 0) = true := by simpa using h0
      have q2 : (st.e == 0) = false := by simpa using h0
      have q3 : decide (st.e = 0) = false := by simpa using h0
      clear h0
      go_wp2_with fail
      refine (rerr_any g b st _ hR.out).mono ?_
      rintro e w_ ⟨rfl, rfl⟩
      go_wp2_with fail
      refine (rerr_any g b st _ hR.out).mono ?_
      rintro e w_ ⟨rfl, rfl⟩
      go_wp2
      go_ret
      rw [HT.out]
      exact ⟨_, rfl, GR.Own.nil _ _ _, hR.out, hG.out⟩
end Go.Proofs.Ytljfigikkajlnaa
