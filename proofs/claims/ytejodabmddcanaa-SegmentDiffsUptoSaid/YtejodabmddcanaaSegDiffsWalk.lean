/- DERIVED. SegmentDiffs: the walk of the law. -/
import Derived.Test.YtejodabmddcanaaSegAgain
import Derived.Test.YtejodabmddcanaaSegDifR
import Derived.Test.YtejodabmddcanaaSegDiffS
namespace Go.Proofs.Ytejodabmddcanaa
open Go.RowKit

def Zone (r : Option Nat) (lo hi : Nat) : Prop := ∀ k, r = some k → lo ≤ k ∧ k < hi
theorem zone_ne {r row : Option Nat} {lo hi lo2 hi2 : Nat} (h : Zone r lo hi) (h2 : Zone row lo2 hi2) (hd : hi ≤ lo2 ∨ hi2 ≤ lo) : r = none ∨ r ≠ row := by
  cases r with
  | none => exact .inl rfl
  | some k =>
    refine .inr fun e => ?_
    have h1 := h k rfl
    have h3 := h2 k e.symm
    omega
theorem cs_setD (l : List Dif) (i : Nat) (e : Dif) (hi : i < l.length) : GR.cs difK (l.set i e) = (((GR.cs difK l).set (i * 3) (.string e.key)).set (i * 3 + 1) (.string e.left)).set (i * 3 + 2) (.string e.right) := by
  induction l generalizing i with
  | nil => exact absurd hi (by simp)
  | cons x l ih =>
    cases i with
    | zero => simp [GR.cs_cons, difK]
    | succ i =>
      rw [List.set_cons_succ, GR.cs_cons, GR.cs_cons, ih i (by simpa using hi)]
      rw [show (i + 1) * 3 = i * 3 + 1 + 1 + 1 by omega]
      simp [difK]
theorem setD {w : World} {B g n cap : Nat} {l : List Dif} (h : GR.Own difK w B (.slice (some ⟨g, 0, none⟩) n cap) l) (i : Nat) (hi : i < l.length) (x y z : ByteArray) :
    GR.Own difK (((w.setCell ⟨g, i * 3, none⟩ (.string x)).setCell ⟨g, i * 3 + 1, none⟩ (.string y)).setCell ⟨g, i * 3 + 2, none⟩ (.string z)) B (.slice (some ⟨g, 0, none⟩) n cap) (l.set i ⟨x, y, z⟩) := by
  have hn : n = l.length := by
    rcases h.2 with ⟨hv, _⟩ | ⟨_, _, _, hv, _⟩
    · cases hv
    · injection hv
  subst hn
  have := (World.ownsRow.stored (World.ownsRow.stored (World.ownsRow.stored h (i * 3) (.string x)).1 (i * 3 + 1) (.string y)).1 (i * 3 + 2) (.string z)).1
  unfold GR.Own
  rw [List.length_set, cs_setD l i ⟨x, y, z⟩ hi]
  exact this
theorem difcells {w : World} {B g n cap : Nat} {l : List Dif} (h : GR.Own difK w B (.slice (some ⟨g, 0, none⟩) n cap) l) (i : Nat) (hi : i < l.length) :
    w.cell? ⟨g, i * 3, none⟩ = some (.string l[i].key) ∧ w.cell? ⟨g, i * 3 + 1, none⟩ = some (.string l[i].left) ∧ w.cell? ⟨g, i * 3 + 2, none⟩ = some (.string l[i].right) ∧
      w.frozen? ⟨g, i * 3, none⟩ = false ∧ w.frozen? ⟨g, i * 3 + 1, none⟩ = false ∧ w.frozen? ⟨g, i * 3 + 2, none⟩ = false := by
  have hn : n = l.length := by
    rcases h.2 with ⟨hv, _⟩ | ⟨_, _, _, hv, _⟩
    · cases hv
    · injection hv
  subst hn
  have hq : ∀ j u, (difK.enc l[i])[j]? = some u → (GR.cs difK l)[i * 3 + j]? = some u := fun j u hu => by
    have hj : j < 3 := by
      rcases Nat.lt_or_ge j 3 with h | h
      · exact h
      · rw [List.getElem?_eq_none (by simpa [difK] using h)] at hu; cases hu
    rw [show i * 3 + j = i * difK.s + j from rfl, GR.cs_at l i j l[i] (List.getElem?_eq_getElem hi) hj]; exact hu
  refine ⟨?_, ?_, ?_, World.ownsRow.frozenAt h _, World.ownsRow.frozenAt h _, World.ownsRow.frozenAt h _⟩
  · have hx : l.length * difK.s = l.length * 3 := rfl
    rw [World.ownsRow.cellAt h _ (by omega)]; exact hq 0 _ rfl
  · have hx : l.length * difK.s = l.length * 3 := rfl
    rw [World.ownsRow.cellAt h _ (by omega)]; exact hq 1 _ rfl
  · have hx : l.length * difK.s = l.length * 3 := rfl
    rw [World.ownsRow.cellAt h _ (by omega)]; exact hq 2 _ rfl
theorem sameD_self (A B : Option Addr) (c d : Nat) (l : List Dif) (w : World) (hl : GR.Rd difK w A l) (hm : GR.Rd difK w B l) :
    Calls Try.prog 30 #[.slice A l.length c, .slice B l.length d] w fun e w' => e = .returned (.bool true) ∧ Drawn w w' :=
  (sameD_any A B c d l l w hl hm).mono fun _ _ ⟨he, hd⟩ => ⟨by rw [he]; simp, hd⟩
def behindD : Dif := ⟨⟨#[98, 101, 104, 105, 110, 100]⟩, em, em⟩

set_option maxRecDepth 100000 in
set_option maxHeartbeats 12800000 in
theorem diffs_walk (A B : Option Addr) (c d : Nat) (a b : List Ent) (w : World) (ha : Rd w A a) (hb : Rd w B b) (la : a.length ≤ 1048576) (lb : b.length ≤ 1048576) :
    Calls Try.prog 5 #[.slice A a.length c, .slice B b.length d] w fun e w' => e = .returned (.bool true) ∧ Below w.heap.size w w' := by
  obtain ⟨i0, hi0, hz0, hz1, hz2⟩ := info_parts dif_info
  obtain ⟨j0, hj0, hy0, hy1, hy2⟩ := info_parts entry_info
  have HA := Lib.hid ha
  have HB := Lib.hid hb
  have bb1 : (difE a b != difE a b) = false := by simp
  have BL := Lib.hid (Below.refl w.heap.size w)
  have ql := difA_len a b
  have qz : (difA a b).length * difK.b ≤ 140737488355328 := by show (difA a b).length * 48 ≤ _; omega
  clear ha hb
  go_enter Try.func5, Try.ntmps5
  go_wp2_with fail
  refine (lent_any A c a _ HA.out (by omega)).mono ?_
  rintro e wA ⟨g1, cap1, rfl, hcap1, ho_, hb_⟩
  have Z1 := Lib.hid (show Zone (some g1) w.heap.size wA.heap.size from fun k hk => ho_.lt k hk)
  have J1 := Lib.hid ho_
  have s1 : w.heap.size ≤ wA.heap.size := hb_.size
  have N_ := Lib.hid (bl_then BL.out hb_)
  clear BL
  have BL := N_
  clear N_
  clear ho_ hb_
  go_wp2_with fail
  refine (lent_any B d b _ (HB.out.below BL.out) (by omega)).mono ?_
  rintro e wB ⟨g2, cap2, rfl, hcap2, ho_, hb_⟩
  have Z2 := Lib.hid (show Zone (some g2) wA.heap.size wB.heap.size from fun k hk => ho_.lt k hk)
  have J2 := Lib.hid ho_
  have s2 : wA.heap.size ≤ wB.heap.size := hb_.size
  have N_ := Lib.hid (J1.out.below hb_)
  clear J1
  have J1 := N_
  clear N_
  have N_ := Lib.hid (bl_then BL.out hb_)
  clear BL
  have BL := N_
  clear N_
  clear ho_ hb_
  go_wp2_with fail
  refine (refDiff_any A B c d a b _ (HA.out.below BL.out) (HB.out.below BL.out) la lb).mono ?_
  rintro e wC ⟨v3, rfl, ho_, hb_⟩
  have Z3 := Lib.hid (show Zone v3.ownBlock wB.heap.size wC.heap.size from fun k hk => ho_.lt k hk)
  have O3 := Lib.hid ho_
  have s3 : wB.heap.size ≤ wC.heap.size := hb_.size
  have N_ := Lib.hid (J1.out.below hb_)
  clear J1
  have J1 := N_
  clear N_
  have N_ := Lib.hid (J2.out.below hb_)
  clear J2
  have J2 := N_
  clear N_
  have N_ := Lib.hid (bl_then BL.out hb_)
  clear BL
  have BL := N_
  clear N_
  clear ho_ hb_
  have RX := Lib.hid ((J1.out.take).rd (by omega)).2
  have RY := Lib.hid ((J2.out.take).rd (by omega)).2
  go_wp2_with fail
  refine (segDiff_any (some ⟨g1, 0, none⟩) (some ⟨g2, 0, none⟩) cap1 cap2 a b _ RX.out RY.out la lb).mono ?_
  rintro e wD ⟨v1, rfl, ho_, hb_⟩
  have Z4 := Lib.hid (show Zone v1.ownBlock wC.heap.size wD.heap.size from fun k hk => ho_.lt k hk)
  have O1 := Lib.hid ho_
  have s4 : wC.heap.size ≤ wD.heap.size := hb_.size
  clear RX RY
  have N_ := Lib.hid (J1.out.below hb_)
  clear J1
  have J1 := N_
  clear N_
  have N_ := Lib.hid (J2.out.below hb_)
  clear J2
  have J2 := N_
  clear N_
  have N_ := Lib.hid (O3.out.below hb_)
  clear O3
  have O3 := N_
  clear N_
  have N_ := Lib.hid (bl_then BL.out hb_)
  clear BL
  have BL := N_
  clear N_
  clear ho_ hb_
  have RX := Lib.hid ((J1.out.take).rd (by omega)).2
  have RY := Lib.hid ((J2.out.take).rd (by omega)).2
  go_wp2_with fail
  refine (segDiff_any (some ⟨g1, 0, none⟩) (some ⟨g2, 0, none⟩) cap1 cap2 a b _ RX.out RY.out la lb).mono ?_
  rintro e wE ⟨v2, rfl, ho_, hb_⟩
  have Z5 := Lib.hid (show Zone v2.ownBlock wD.heap.size wE.heap.size from fun k hk => ho_.lt k hk)
  have O2 := Lib.hid ho_
  have s5 : wD.heap.size ≤ wE.heap.size := hb_.size
  clear RX RY
  have N_ := Lib.hid (J1.out.below hb_)
  clear J1
  have J1 := N_
  clear N_
  have N_ := Lib.hid (J2.out.below hb_)
  clear J2
  have J2 := N_
  clear N_
  have N_ := Lib.hid (O3.out.below hb_)
  clear O3
  have O3 := N_
  clear N_
  have N_ := Lib.hid (O1.out.below hb_)
  clear O1
  have O1 := N_
  clear N_
  have N_ := Lib.hid (bl_then BL.out hb_)
  clear BL
  have BL := N_
  clear N_
  clear ho_ hb_
  obtain ⟨A1, c1, e1, -, -⟩ := O1.out.rd' (by omega)
  obtain ⟨A2, c2, e2, -, -⟩ := O2.out.rd' (by omega)
  obtain ⟨A3, c3, e3, -, -⟩ := O3.out.rd' (by omega)
  subst e1 e2 e3
  go_wp2_with fail
  refine (sameD_self A1 A3 c1 c3 (difA a b) _ (O1.out.rd (by omega)).2.2 (O3.out.rd (by omega)).2.2).mono ?_
  rintro e wF ⟨rfl, hd_⟩
  have hb_ := hd_.below
  clear hd_
  have N_ := Lib.hid (J1.out.below (hb_ _))
  clear J1
  have J1 := N_
  clear N_
  have N_ := Lib.hid (J2.out.below (hb_ _))
  clear J2
  have J2 := N_
  clear N_
  have N_ := Lib.hid (O1.out.below (hb_ _))
  clear O1
  have O1 := N_
  clear N_
  have N_ := Lib.hid (O2.out.below (hb_ _))
  clear O2
  have O2 := N_
  clear N_
  have N_ := Lib.hid (O3.out.below (hb_ _))
  clear O3
  have O3 := N_
  clear N_
  have N_ := Lib.hid (bl_then BL.out (hb_ _))
  clear BL
  have BL := N_
  clear N_
  clear hb_
  go_wp2_with fail
  refine (sameD_self A2 A3 c2 c3 (difA a b) _ (O2.out.rd (by omega)).2.2 (O3.out.rd (by omega)).2.2).mono ?_
  rintro e wG ⟨rfl, hd_⟩
  have hb_ := hd_.below
  clear hd_
  have N_ := Lib.hid (J1.out.below (hb_ _))
  clear J1
  have J1 := N_
  clear N_
  have N_ := Lib.hid (J2.out.below (hb_ _))
  clear J2
  have J2 := N_
  clear N_
  have N_ := Lib.hid (O1.out.below (hb_ _))
  clear O1
  have O1 := N_
  clear N_
  have N_ := Lib.hid (O2.out.below (hb_ _))
  clear O2
  have O2 := N_
  clear N_
  have N_ := Lib.hid (O3.out.below (hb_ _))
  clear O3
  have O3 := N_
  clear N_
  have N_ := Lib.hid (bl_then BL.out (hb_ _))
  clear BL
  have BL := N_
  clear N_
  clear hb_
  go_wp2_with fail
  refine (kept_any g1 cap1 _ A c a _ (HA.out.below BL.out) (by omega) J1.out).mono ?_
  rintro e wH ⟨rfl, hb_⟩
  have N_ := Lib.hid (J1.out.below hb_)
  clear J1
  have J1 := N_
  clear N_
  have N_ := Lib.hid (J2.out.below hb_)
  clear J2
  have J2 := N_
  clear N_
  have N_ := Lib.hid (O1.out.below hb_)
  clear O1
  have O1 := N_
  clear N_
  have N_ := Lib.hid (O2.out.below hb_)
  clear O2
  have O2 := N_
  clear N_
  have N_ := Lib.hid (O3.out.below hb_)
  clear O3
  have O3 := N_
  clear N_
  have N_ := Lib.hid (bl_then BL.out hb_)
  clear BL
  have BL := N_
  clear N_
  clear hb_
  go_wp2_with fail
  refine (kept_any g2 cap2 _ B d b _ (HB.out.below BL.out) (by omega) J2.out).mono ?_
  rintro e wI ⟨rfl, hb_⟩
  have N_ := Lib.hid (J1.out.below hb_)
  clear J1
  have J1 := N_
  clear N_
  have N_ := Lib.hid (J2.out.below hb_)
  clear J2
  have J2 := N_
  clear N_
  have N_ := Lib.hid (O1.out.below hb_)
  clear O1
  have O1 := N_
  clear N_
  have N_ := Lib.hid (O2.out.below hb_)
  clear O2
  have O2 := N_
  clear N_
  have N_ := Lib.hid (O3.out.below hb_)
  clear O3
  have O3 := N_
  clear N_
  have N_ := Lib.hid (bl_then BL.out hb_)
  clear BL
  have BL := N_
  clear N_
  clear hb_
  have K1 := Lib.hid J1.out.take
  have K2 := Lib.hid J2.out.take
  clear J1 J2 HA HB
  go_wp2_with fail
  refine (over_any _ _ a _ (by omega) K1.out).mono ?_
  rintro e wJ ⟨⟨r1, rfl⟩, a', ha'_, ho_, hg_⟩
  have HAL := Lib.hid ha'_
  clear ha'_
  have N_ := Lib.hid (bl_of_grown BL.out hg_ (fun k hk => (Z1.out k hk).1))
  clear BL
  have BL := N_
  clear N_
  have N_ := Lib.hid (K2.out.grown hg_ (zone_ne Z2.out Z1.out (.inr (by omega))))
  clear K2
  have K2 := N_
  clear N_
  have N_ := Lib.hid (O1.out.grown hg_ (zone_ne Z4.out Z1.out (.inr (by omega))))
  clear O1
  have O1 := N_
  clear N_
  have N_ := Lib.hid (O2.out.grown hg_ (zone_ne Z5.out Z1.out (.inr (by omega))))
  clear O2
  have O2 := N_
  clear N_
  have N_ := Lib.hid (O3.out.grown hg_ (zone_ne Z3.out Z1.out (.inr (by omega))))
  clear O3
  have O3 := N_
  clear N_
  have L1 := Lib.hid ho_
  clear ho_ hg_ K1
  go_wp2_with fail
  refine (over_any _ _ b _ (by omega) K2.out).mono ?_
  rintro e wK ⟨⟨r2, rfl⟩, b', hb'_, ho_, hg_⟩
  have HBL := Lib.hid hb'_
  clear hb'_
  have N_ := Lib.hid (bl_of_grown BL.out hg_ (fun k hk => Nat.le_trans s1 (Z2.out k hk).1))
  clear BL
  have BL := N_
  clear N_
  have N_ := Lib.hid (L1.out.grown hg_ (zone_ne Z1.out Z2.out (.inl (by omega))))
  clear L1
  have L1 := N_
  clear N_
  have N_ := Lib.hid (O1.out.grown hg_ (zone_ne Z4.out Z2.out (.inr (by omega))))
  clear O1
  have O1 := N_
  clear N_
  have N_ := Lib.hid (O2.out.grown hg_ (zone_ne Z5.out Z2.out (.inr (by omega))))
  clear O2
  have O2 := N_
  clear N_
  have N_ := Lib.hid (O3.out.grown hg_ (zone_ne Z3.out Z2.out (.inr (by omega))))
  clear O3
  have O3 := N_
  clear N_
  have L2 := Lib.hid ho_
  clear ho_ hg_ K2
  go_wp2_with fail
  refine (sameD_self A1 A3 c1 c3 (difA a b) _ (O1.out.rd (by omega)).2.2 (O3.out.rd (by omega)).2.2).mono ?_
  rintro e wL ⟨rfl, hd_⟩
  have hb_ := hd_.below
  clear hd_
  have N_ := Lib.hid (L1.out.below (hb_ _))
  clear L1
  have L1 := N_
  clear N_
  have N_ := Lib.hid (L2.out.below (hb_ _))
  clear L2
  have L2 := N_
  clear N_
  have N_ := Lib.hid (O1.out.below (hb_ _))
  clear O1
  have O1 := N_
  clear N_
  have N_ := Lib.hid (O2.out.below (hb_ _))
  clear O2
  have O2 := N_
  clear N_
  have N_ := Lib.hid (O3.out.below (hb_ _))
  clear O3
  have O3 := N_
  clear N_
  have N_ := Lib.hid (bl_then BL.out (hb_ _))
  clear BL
  have BL := N_
  clear N_
  clear hb_
  have G1 := Lib.hid (show ∀ k, (Value.slice A1 (difA a b).length c1).ownBlock = some k → w.heap.size ≤ k from fun k hk => by have := Z4.out k hk; omega)
  have sL : w.heap.size ≤ wL.heap.size := BL.out.size
  go_wp2
  go_loopw [13] (fun i w' => ∃ (k : Nat) (m : List Dif), k ≤ (difA a b).length ∧ i = .int .i64 k ∧ Hid (m.length = (difA a b).length) ∧ Hid (GR.Own difK w' w.heap.size (.slice A1 (difA a b).length c1) m) ∧ Hid (wL.grownBy w' (Value.slice A1 (difA a b).length c1).ownBlock)) (fun i _ => (difA a b).length - (intOf i).toNat)
  case atStart => exact ⟨0, difA a b, Nat.zero_le _, rfl, Lib.hid rfl, Lib.hid (O1.out.base (by omega)), Lib.hid (grown_refl _ _)⟩
  case round =>
    obtain ⟨k, m, hk, rfl, hm, ho, hg⟩ := hrel
    by_cases hlt : k < (difA a b).length
    · have i1 : (0 : Int) ≤ (k : Int) := by omega
      have i2 : (k : Int) < ((difA a b).length : Int) := by omega
      obtain ⟨h, rfl⟩ : ∃ h, A1 = some ⟨h, 0, none⟩ := by
        rcases ho.out.2 with ⟨e, h0⟩ | ⟨h, cap, cur, e, _⟩
        · rw [hm.out] at h0; omega
        · injection e with e' _ _; exact ⟨h, e'⟩
      obtain ⟨x0, x1, x2, f0, f1, f2⟩ := difcells ho.out k (by rw [hm.out]; exact hlt)
      have hgt := (ho.out.lt h rfl).2
      go_wp2
      go_roundw
      case rel => exact ⟨k + 1, m.set k ⟨_, _, _⟩, by omega, by go_num, Lib.hid (by rw [List.length_set]; exact hm.out), Lib.hid (setD ho.out k (by rw [hm.out]; exact hlt) _ _ _), Lib.hid (grown_step (grown_step (grown_step hg.out (grown_set _ _ _ _) (.inl rfl)) (grown_set _ _ _ _) (.inl rfl)) (grown_set _ _ _ _) (.inl rfl))⟩
      case measure => simp [intOf]; omega
    · obtain rfl : k = (difA a b).length := by omega
      clear hk hlt
      go_wp2
      go_loopw [9, 14] (fun v0 i w' => ∃ (u : Value) (k : Nat) (m : List Dif), u = v0 ∧ k ≤ 70 ∧ i = .int .i64 k ∧ Hid (m.length = (difA a b).length + k) ∧ Hid (GR.Own difK w' w.heap.size u m) ∧ Hid (wL.grownBy w' (Value.slice A1 (difA a b).length c1).ownBlock) ∧ Hid (u.ownBlock = (Value.slice A1 (difA a b).length c1).ownBlock ∨ ∀ b, u.ownBlock = some b → wL.heap.size ≤ b)) (fun _ i _ => 70 - (intOf i).toNat)
      case atStart => exact ⟨(Value.slice A1 (difA a b).length c1), 0, m, rfl, Nat.zero_le _, rfl, hm, ho, hg, Lib.hid (.inl rfl)⟩
      clear hm ho hg
      case round =>
        obtain ⟨u, k, m, rfl, hk, rfl, hm, ho, hg, hu⟩ := hrel
        have hsz : wL.heap.size ≤ wr.heap.size := hg.out.size
        by_cases hlt : k < 70
        · go_wp2_with (at_builtin; refine GR.app_one (K := difK) rfl (.tmp 92) (.tmp 94) _ rfl Try.underlying44 hi0 hz0 hz1 hz2 rfl w.heap.size u m behindD rfl ho.out rfl (by have := hm.out; show (m.length + 1) * 48 ≤ _; omega) (by omega) ?_; intro v9 w9 ho3 hg3 hat3; have HO3 := Lib.hid ho3; have HG3 := Lib.hid (grown_step hg.out hg3 hu.out); have HU3 := Lib.hid (show v9.ownBlock = (Value.slice A1 (difA a b).length c1).ownBlock ∨ ∀ b, v9.ownBlock = some b → wL.heap.size ≤ b by
            rcases hat3 with h | ⟨b, h, hb⟩
            · rw [h]; exact hu.out
            · refine .inr fun b' hb' => ?_
              rw [h] at hb'; cases hb'; omega); clear ho3 hg3 hat3)
          go_roundw
          case rel => exact ⟨_, k + 1, _, rfl, by omega, by go_num, Lib.hid (by rw [List.length_append, hm.out]; rfl), HO3, HG3, HU3⟩
          case measure => simp [intOf]; omega
        · obtain rfl : k = 70 := by omega
          have hg_ := hg.out
          clear ho hu hm hg
          have N_ := Lib.hid (bl_of_grown BL.out hg_ G1.out)
          clear BL
          have BL := N_
          clear N_
          have N1 := Lib.hid (L1.out.grown hg_ (zone_ne Z1.out Z4.out (.inl (by omega))))
          have N2 := Lib.hid (L2.out.grown hg_ (zone_ne Z2.out Z4.out (.inl (by omega))))
          have N4 := Lib.hid (O2.out.grown hg_ (zone_ne Z5.out Z4.out (.inr (by omega))))
          have N5 := Lib.hid (O3.out.grown hg_ (zone_ne Z3.out Z4.out (.inl (by omega))))
          clear L1 L2 O1 O2 O3 hg_
          go_wp2_with fail
          refine (sameD_self A2 A3 c2 c3 (difA a b) _ (N4.out.rd (by omega)).2.2 (N5.out.rd (by omega)).2.2).mono ?_
          rintro e wM ⟨rfl, hd_⟩
          have M1 := Lib.hid (N1.out.below (hd_.below _))
          have M2 := Lib.hid (N2.out.below (hd_.below _))
          have BM := Lib.hid (bl_drawn BL.out hd_)
          clear hd_ N1 N2 N4 N5 BL
          have RX := Lib.hid (M1.out.rd (by have := HAL.out; omega)).2
          go_wp2_with (first | (at_builtin; refine app_twin rfl (.tmp 101) (.tmp 102) _ rfl Try.underlying37 hj0 hy0 hy1 hy2 rfl rfl (some ⟨g1, 0, none⟩) a.length cap1 a' rfl HAL.out.symm RX.out (by have := HAL.out; omega) ?_; intro v7 w7 ho_ hb_; have T7 := Lib.hid ho_; have B7 := Lib.hid (bl_then BM.out hb_); have Q1 := Lib.hid (M1.out.below hb_); have Q2 := Lib.hid (M2.out.below hb_); clear ho_ hb_ M1 M2 RX BM; have RY := Lib.hid (Q2.out.rd (by have := HBL.out; omega)).2) | (at_builtin; refine app_twin rfl (.tmp 104) (.tmp 105) _ rfl Try.underlying37 hj0 hy0 hy1 hy2 rfl rfl (some ⟨g2, 0, none⟩) b.length cap2 b' rfl HBL.out.symm RY.out (by have := HBL.out; omega) ?_; intro v8 w8 ho_ hb_; have T8 := Lib.hid ho_; have S7 := Lib.hid (T7.out.below hb_); have B8 := Lib.hid (bl_then B7.out hb_); have U1 := Lib.hid (Q1.out.below hb_); have U2 := Lib.hid (Q2.out.below hb_); clear ho_ hb_ T7 Q1 Q2 RY B7))
          obtain ⟨A7, c7, e7, -, r7⟩ := S7.out.rd' (by have := HAL.out; omega)
          obtain ⟨A8, c8, e8, -, r8⟩ := T8.out.rd' (by have := HBL.out; omega)
          subst e7 e8
          have R7 := Lib.hid r7
          have R8 := Lib.hid r8
          clear r7 r8 S7 T8
          have qz2 : (difA a' b').length * difK.b ≤ 140737488355328 := by
            have := difA_len a' b'
            have := HAL.out
            have := HBL.out
            show (difA a' b').length * 48 ≤ _
            omega
          refine (refDiff_any A7 A8 c7 c8 a' b' _ R7.out R8.out (by rw [HAL.out]; exact la) (by rw [HBL.out]; exact lb)).mono ?_
          rintro e wN ⟨v9, rfl, ho_, hb_⟩
          have O9 := Lib.hid ho_
          have V1 := Lib.hid (U1.out.below hb_)
          have V2 := Lib.hid (U2.out.below hb_)
          have BN := Lib.hid (bl_then B8.out hb_)
          clear ho_ hb_ U1 U2 R7 R8 B8
          have p1 := segDiff_any (some ⟨g1, 0, none⟩) (some ⟨g2, 0, none⟩) cap1 cap2 a' b' wN (V1.out.rd (by have := HAL.out; omega)).2 (V2.out.rd (by have := HBL.out; omega)).2 (by rw [HAL.out]; exact la) (by rw [HBL.out]; exact lb)
          rw [HAL.out, HBL.out] at p1
          have P1 := Lib.hid p1
          clear p1
          go_wp2_with fail
          refine P1.out.mono ?_
          rintro e wO ⟨v11, rfl, ho_, hb_⟩
          have O11 := Lib.hid ho_
          have O9' := Lib.hid (O9.out.below hb_)
          have BO := Lib.hid (bl_then BN.out hb_)
          clear ho_ hb_ P1 V1 V2 O9 BN
          obtain ⟨A9, c9, e9, -, r9⟩ := O9'.out.rd' qz2
          obtain ⟨A11, c11, e11, -, r11⟩ := O11.out.rd' qz2
          subst e9 e11
          have R9 := Lib.hid r9
          have R11 := Lib.hid r11
          clear r9 r11 O9' O11
          have bb3 : (difE a' b' == difE a' b') = true := by simp
          go_wp2_with fail
          refine (sameD_self A11 A9 c11 c9 (difA a' b') _ R11.out R9.out).mono ?_
          rintro e wP ⟨rfl, hd_⟩
          have BP := Lib.hid (bl_drawn BO.out hd_)
          clear hd_
          go_wp2
          go_ret
          exact ⟨rfl, BP.out⟩
end Go.Proofs.Ytejodabmddcanaa
