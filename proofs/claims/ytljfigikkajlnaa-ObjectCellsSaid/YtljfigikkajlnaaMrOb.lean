/- DERIVED. The document's Place, Check, Absent, Pack of an object. The document's Pack of an object: the plain cell; the walk. The object that a cell is: plain; the document's Unpack. The program's Unpack. (Several texts in one: ObDoc, ObPack, ObUnp, ObUnpP.) -/
import Derived.Test.YtljfigikkajlnaaMrPl
import Derived.Test.YtljfigikkajlnaaMrEnc
import Derived.WalkMore
import Derived.Test.YtljfigikkajlnaaMrDec
import Derived.Test.YtljfigikkajlnaaDvHS
import Derived.Test.YtljfigikkajlnaaMrRd
import Derived.Lib.IndexBytes
namespace Go.Proofs.Ytljfigikkajlnaa
open Go.RowKit Go.Lib
set_option linter.unusedVariables false
set_option linter.unusedSimpArgs false
attribute [local irreducible] arrW arrB

theorem refKey_any (s : ByteArray) (w : World) :
    Calls Try.prog 48 #[.string s] w fun e w' => e = .returned (.int .i64 (keyE s)) ∧ w = w' := by
  by_cases h1 : s.size < 1
  · have hk : keyE s = 130 := keyE_neg (by simp [keyB]; omega)
    have d1 : decide ((s.size : Int) < 1) = true := by simp; omega
    rw [hk]; clear hk
    go_enter Try.func48, Try.ntmps48
    go_wp2
    all_goals (go_ret; exact ⟨rfl, rfl⟩)
  · have d1 : decide ((s.size : Int) < 1) = false := by simp; omega
    by_cases h2 : s.size ≤ 32
    · have hk : keyE s = 0 := keyE_pos (by simp [keyB]; omega)
      rw [hk]; clear hk
      go_enter Try.func48, Try.ntmps48
      go_wp2
      all_goals (go_ret; exact ⟨rfl, rfl⟩)
    · have hk : keyE s = 130 := keyE_neg (by simp [keyB]; omega)
      rw [hk]; clear hk
      go_enter Try.func48, Try.ntmps48
      go_wp2
      all_goals (go_ret; exact ⟨rfl, rfl⟩)
section
attribute [local irreducible] wpList Code.wp
set_option maxRecDepth 100000 in
set_option maxHeartbeats 3200000 in
theorem dplace_yes (s : ByteArray) (h : keyB s = true) (w : World) : Calls Try.prog 47 #[.string s] w fun e w' => e = .returned (.tuple #[.int .i64 (placeI s), .int .i64 0]) ∧ Below w.heap.size w w' := by
  have hk := (keyB_iff _).1 h
  have ks := hk.2
  have k1 := hk.1
  have hcat : ∀ W, (Op.stringOp .add ⟨#[75]⟩ s).run Try.prog W = .ok (.string (⟨#[75]⟩ ++ s)) W := fun W => run_string_add_sum W _ _ (by show 1 + s.size ≤ _; omega)
  have hcs : ((⟨#[75]⟩ : ByteArray) ++ s).size ≤ 70368744177664 := by rw [ByteArray.size_append]; show 1 + s.size ≤ _; omega
  have HCS := Lib.hid hcs
  have HK := Lib.hid (keyE_pos h)
  clear hk ks k1 hcs
  go_enter Try.func47, Try.ntmps47
  go_wp2_with (first
    | (go_at_call 48; refine (refKey_any s _).mono ?_; rintro e w1 ⟨rfl, rfl⟩; rw [HK.out])
    | (go_at_call 98; refine (refOf_any _ HCS.out w).mono ?_; rintro e W1 ⟨rfl, L_⟩; have L1 := Lib.hid L_; clear L_)
    | (refine alloc_arr (w := W1) rfl 91 rfl _ _ z32 ?_; intro W2 B_ L_ S_; have B2 := Lib.hid B_; have L2 := Lib.hid L_; have S2 := Lib.hid S_; clear B_ L_ S_)
    | (refine store_arr (w := W2) rfl 91 _ _ rfl W1.heap.size (arrB 32 (shaB (placeL s))) rfl rfl _ _ B2.out (by rw [arrB_size]; exact s32) (by rw [arrB_size, arrB_size]) (arrB_one _ _) ?_; intro W3 B_ G_ S_; have B3 := Lib.hid B_; have G3 := Lib.hid G_; clear B_ G_ S_; have c0 := (B3.out.cell 0).trans (arrB_get 32 (shaB (placeL s)) (by omega)); have c1 := (B3.out.cell 1).trans (arrB_get 32 (shaB (placeL s)) (by omega))))
  go_ret2
  refine ⟨?_, bl_of_grown (bl_then L1.out L2.out) G3.out (zero_lt_of (by have := L1.out.size; omega) rfl)⟩
  show Ending.returned (.tuple #[.int .i64 _, _]) = _
  rw [Int.mul_comm 16, place_sum]
  rfl
end
theorem dplace_no (s : ByteArray) (h : keyB s = false) (w : World) : Calls Try.prog 47 #[.string s] w fun e w' => e = .returned (.tuple #[.int .i64 0, .int .i64 130]) ∧ w = w' := by
  have HK := Lib.hid (keyE_neg h)
  go_enter Try.func47, Try.ntmps47
  go_wp2_with (go_at_call 48; refine (refKey_any s _).mono ?_; rintro e w1 ⟨rfl, rfl⟩; rw [HK.out])
  go_ret2
  exact ⟨rfl, rfl⟩
def chkE (key : ByteArray) (a : List Dot) (l : List Sib) : Int := if keyB key = false then 130 else if staB a l = false then 110 else if 280 < (encS a l).length then 82 else 0
/-- The numbers of a state's dots, within their kinds. -/
def StR (a : List Dot) (l : List Sib) : Prop := (∀ d ∈ a, 0 ≤ d.n ∧ 0 ≤ d.a ∧ d.a ≤ 4294967295) ∧ ∀ x ∈ l, 0 ≤ x.d.n ∧ 0 ≤ x.d.a ∧ x.d.a ≤ 4294967295
theorem refEncO_any (A C : Option Addr) (n c m d : Nat) (a : List Dot) (l : List Sib) (t : ByteArray) (x : Int) (w : World) (ha : GR.Rd dotK w A a) (hl : GR.Rd sibK w C l) (hn : n = a.length) (hm : m = l.length) (hr : StR a l) (ht : encT a l = t) (hx : encE a l = x) :
    Calls Try.prog 67 #[.agg #[.slice A n c, .slice C m d]] w fun e w' => e = .returned (.tuple #[.string t, .int .i64 x]) ∧ Below w.heap.size w w' := by
  subst hn hm ht hx
  exact refEncode_any A C c d a l w ha hl (fun d hd => (hr.1 d hd).1) (fun x hx => (hr.2 x hx).1) (fun d hd => (hr.1 d hd).2) (fun x hx => (hr.2 x hx).2)
theorem encT_yes {a : List Dot} {l : List Sib} (h : staB a l = true) : encT a l = ⟨(encS a l).toArray⟩ ∧ encE a l = 0 := by rw [encT, encE, if_pos h, if_pos h]; exact ⟨rfl, rfl⟩
theorem encT_no {a : List Dot} {l : List Sib} (h : staB a l = false) : encT a l = ⟨#[]⟩ ∧ encE a l = 110 := by rw [encT, encE, h]; exact ⟨rfl, rfl⟩
theorem szL (L : List UInt8) : (⟨L.toArray⟩ : ByteArray).size = L.length := by simp [ByteArray.size]

set_option maxRecDepth 100000 in
set_option maxHeartbeats 6400000 in
theorem dcheck_any (key : ByteArray) (A C : Option Addr) (n c m d : Nat) (a : List Dot) (l : List Sib) (w : World) (ha : GR.Rd dotK w A a) (hl : GR.Rd sibK w C l) (hn : n = a.length) (hm : m = l.length) (hr : StR a l) :
    Calls Try.prog 32 #[.agg #[.string key, .slice A n c, .slice C m d]] w fun e w' => e = .returned (.int .i64 (chkE key a l)) ∧ Below w.heap.size w w' := by
  have HA := Lib.hid ha
  have HL := Lib.hid hl
  have HR := Lib.hid hr
  have HN := Lib.hid hn
  have HM := Lib.hid hm
  clear ha hl hr hn hm
  by_cases h1 : keyB key = true
  · have HK := Lib.hid (keyE_pos h1)
    by_cases h2 : staB a l = true
    · obtain ⟨t1, t2⟩ := encT_yes h2
      have T1 := Lib.hid t1
      have T2 := Lib.hid t2
      have hc : chkE key a l = if 280 < (encS a l).length then 82 else 0 := by rw [chkE, h1, h2]; rfl
      have hz := szL (encS a l)
      obtain ⟨k, hk⟩ : ∃ k, k = (encS a l).length := ⟨_, rfl⟩
      rw [← hk] at hc hz
      have HC := Lib.hid hc
      clear t1 t2 hk hc h1 h2
      by_cases h3 : 280 < k
      · have d1 : decide ((280 : Int) < (k : Int)) = true := by simp; omega
        have d2 : decide (280 < k) = true := by simp; omega
        have HV := Lib.hid (show chkE key a l = 82 by rw [HC.out, if_pos h3])
        clear h3
        go_enter Try.func32, Try.ntmps32
        go_wp2_with fail
        refine (refKey_any key _).mono ?_
        rintro e w1 ⟨rfl, rfl⟩
        rw [HK.out]
        go_wp2_with fail
        refine (refEncO_any A C n c m d a l _ _ _ (HA.out.alloc _) (HL.out.alloc _) HN.out HM.out HR.out T1.out T2.out).mono ?_
        rintro e w2 ⟨rfl, hb⟩
        have B2 := Lib.hid (bl_then ((Below.refl _ _).alloc (Nat.le_refl _) _) hb)
        clear hb
        go_wp2
        go_ret
        exact ⟨by rw [HV.out]; rfl, B2.out⟩
      · have d1 : decide ((280 : Int) < (k : Int)) = false := by simp; omega
        have d2 : decide (280 < k) = false := by simp; omega
        have HV := Lib.hid (show chkE key a l = 0 by rw [HC.out, if_neg h3])
        clear h3
        go_enter Try.func32, Try.ntmps32
        go_wp2_with fail
        refine (refKey_any key _).mono ?_
        rintro e w1 ⟨rfl, rfl⟩
        rw [HK.out]
        go_wp2_with fail
        refine (refEncO_any A C n c m d a l _ _ _ (HA.out.alloc _) (HL.out.alloc _) HN.out HM.out HR.out T1.out T2.out).mono ?_
        rintro e w2 ⟨rfl, hb⟩
        have B2 := Lib.hid (bl_then ((Below.refl _ _).alloc (Nat.le_refl _) _) hb)
        clear hb
        go_wp2
        go_ret
        exact ⟨by rw [HV.out]; rfl, B2.out⟩
    · have h2' : staB a l = false := by simpa using h2
      obtain ⟨t1, t2⟩ := encT_no h2'
      have T1 := Lib.hid t1
      have T2 := Lib.hid t2
      have HV := Lib.hid (show chkE key a l = 110 by rw [chkE, h1, h2']; rfl)
      clear t1 t2 h1 h2 h2'
      go_enter Try.func32, Try.ntmps32
      go_wp2_with fail
      refine (refKey_any key _).mono ?_
      rintro e w1 ⟨rfl, rfl⟩
      rw [HK.out]
      go_wp2_with fail
      refine (refEncO_any A C n c m d a l _ _ _ (HA.out.alloc _) (HL.out.alloc _) HN.out HM.out HR.out T1.out T2.out).mono ?_
      rintro e w2 ⟨rfl, hb⟩
      have B2 := Lib.hid (bl_then ((Below.refl _ _).alloc (Nat.le_refl _) _) hb)
      clear hb
      go_wp2
      go_ret
      exact ⟨by rw [HV.out]; rfl, B2.out⟩
  · have h1' : keyB key = false := by simpa using h1
    have HK := Lib.hid (keyE_neg h1')
    have HV := Lib.hid (show chkE key a l = 130 by rw [chkE, h1']; rfl)
    clear h1 h1'
    go_enter Try.func32, Try.ntmps32
    go_wp2_with fail
    refine (refKey_any key _).mono ?_
    rintro e w1 ⟨rfl, rfl⟩
    rw [HK.out]
    go_wp2
    go_ret
    exact ⟨by rw [HV.out]; rfl, (Below.refl _ _).alloc (Nat.le_refl _) _⟩
def absB (a : List Dot) (l : List Sib) : Bool := decide (a.length = 0) && decide (l.length = 0)
theorem dabsent_any (key : ByteArray) (A C : Option Addr) (n c m d : Nat) (a : List Dot) (l : List Sib) (w : World) (hn : n = a.length) (hm : m = l.length) :
    Calls Try.prog 88 #[.agg #[.string key, .slice A n c, .slice C m d]] w fun e w' => e = .returned (.bool (absB a l)) ∧ Below w.heap.size w w' := by
  have HV := Lib.hid (show absB a l = (decide (n = 0) && decide (m = 0)) by rw [absB, hn, hm])
  clear hn hm
  by_cases h1 : n = 0
  · subst h1
    by_cases h2 : m = 0
    · subst h2
      go_enter Try.func88, Try.ntmps88
      go_wp2
      go_ret
      exact ⟨by rw [HV.out]; rfl, (Below.refl _ _).alloc (Nat.le_refl _) _⟩
    · have e1 : ((m : Int) == 0) = false := by simp; omega
      have e2 : decide ((m : Int) = 0) = false := by simp; omega
      have e3 : decide (m = 0) = false := by simp; omega
      have e4 : (m == 0) = false := by simp; omega
      go_enter Try.func88, Try.ntmps88
      go_wp2
      go_ret
      exact ⟨by rw [HV.out, e3]; rfl, (Below.refl _ _).alloc (Nat.le_refl _) _⟩
  · have e1 : ((n : Int) == 0) = false := by simp; omega
    have e2 : decide ((n : Int) = 0) = false := by simp; omega
    have e3 : decide (n = 0) = false := by simp; omega
    have e4 : (n == 0) = false := by simp; omega
    go_enter Try.func88, Try.ntmps88
    go_wp2
    go_ret
    exact ⟨by rw [HV.out, e3]; rfl, (Below.refl _ _).alloc (Nat.le_refl _) _⟩
end Go.Proofs.Ytljfigikkajlnaa

namespace Go.Proofs.Ytljfigikkajlnaa
open Go.RowKit Go.Lib
set_option linter.unusedVariables false
set_option linter.unusedSimpArgs false

def placeN (key : ByteArray) : Nat := (placeI key).toNat
theorem placeN_lt (key : ByteArray) : placeN key < 4096 ∧ ((placeN key : Nat) : Int) = placeI key := by
  have h1 := bv_lt (shaB (placeL key) 0)
  have h2 := bv_lt (shaB (placeL key) 1)
  unfold placeN placeI
  omega
def packK (key : ByteArray) : ByteArray := prefS (placeN key) ++ key
def packE (key : ByteArray) (a : List Dot) (l : List Sib) : Int := if chkE key a l = 0 then (if absB a l then 110 else 0) else chkE key a l
def packC (key : ByteArray) (a : List Dot) (l : List Sib) : ByteArray × ByteArray := if packE key a l = 0 then (packK key, ⟨(encS a l).toArray⟩) else (⟨#[]⟩, ⟨#[]⟩)
theorem chk_cases {key : ByteArray} {a : List Dot} {l : List Sib} (h : chkE key a l = 0) : keyB key = true ∧ staB a l = true ∧ (encS a l).length ≤ 280 := by
  unfold chkE at h
  by_cases h1 : keyB key = true
  · by_cases h2 : staB a l = true
    · rw [h1, h2] at h
      simp only [Bool.true_eq_false, if_false] at h
      split at h
      · omega
      · exact ⟨h1, h2, by omega⟩
    · have h2' : staB a l = false := by simpa using h2
      rw [h1, h2'] at h
      simp at h
  · have h1' : keyB key = false := by simpa using h1
    rw [h1'] at h
    simp at h
theorem dfixed2_any (n : Nat) (h : n < 4096) (w : World) : Calls Try.prog 89 #[.int .u64 n, .int .i64 2] w fun e w' => e = .returned (.string (prefS n)) ∧ Below w.heap.size w w' := by
  have hf := fixed_any n 2 (by omega) (by omega) (by omega) w
  rw [fixL_two n h] at hf
  exact hf
theorem prefS_size (n : Nat) : (prefS n).size = 2 := by simp [prefS, strOfNums_size]

set_option maxRecDepth 100000 in
set_option maxHeartbeats 6400000 in
theorem dpack_any (key : ByteArray) (A C : Option Addr) (n c m d : Nat) (a : List Dot) (l : List Sib) (w : World) (ha : GR.Rd dotK w A a) (hl : GR.Rd sibK w C l) (hn : n = a.length) (hm : m = l.length) (hr : StR a l) :
    Calls Try.prog 39 #[.agg #[.string key, .slice A n c, .slice C m d]] w fun e w' => e = .returned (.tuple #[.agg #[.string (packC key a l).1, .string (packC key a l).2], .int .i64 (packE key a l)]) ∧ Below w.heap.size w w' := by
  have HA := Lib.hid ha
  have HL := Lib.hid hl
  have HR := Lib.hid hr
  have HN := Lib.hid hn
  have HM := Lib.hid hm
  clear ha hl hr hn hm
  go_enter Try.func39, Try.ntmps39
  go_wp2_with fail
  obtain ⟨W1, hW1⟩ : ∃ W1 : World, W1 = (w.alloc (.cells #[.string key, .slice A n c, .slice C m d] 27)).alloc (.cells #[.string ⟨#[]⟩, .string ⟨#[]⟩] 48) := ⟨_, rfl⟩
  rw [← hW1]
  have LW : Hid (Below w.heap.size w W1) := Lib.hid (by rw [hW1]; exact (by repeat (first | exact Below.refl _ _ | refine bl_drewN ?_ _ | refine bl_drew ?_ | refine bl_alloc ?_ _)))
  have XO : Hid (GR.Blk W1 w.heap.size 27 #[.string key, .slice A n c, .slice C m d]) := Lib.hid (by rw [hW1]; exact (GR.Blk.new _ _ _).alloc _)
  have XR : Hid (GR.Blk W1 (w.heap.size + 1) 48 #[.string ⟨#[]⟩, .string ⟨#[]⟩]) := Lib.hid (by rw [hW1]; exact new_at _ _ _ (by simp))
  clear hW1
  refine (dcheck_any key A C n c m d a l _ (HA.out.below LW.out) (HL.out.below LW.out) HN.out HM.out HR.out).mono ?_
  rintro e w2 ⟨rfl, hb⟩
  have B2 := Lib.hid (bl_then LW.out hb)
  have O2 := Lib.hid (XO.out.below hb XO.out.lt)
  have R2 := Lib.hid (XR.out.below hb XR.out.lt)
  clear hb
  have rn : w.heap.size ≠ w.heap.size + 1 := by omega
  by_cases h1 : chkE key a l = 0
  · rw [h1]
    obtain ⟨k1, k2, k3⟩ := chk_cases h1
    have K1 := Lib.hid k1
    have o0 : w2.cell? ⟨w.heap.size, 0, none⟩ = some (.string key) := O2.out.cell 0
    have o1 : w2.cell? ⟨w.heap.size, 1, none⟩ = some (.slice A n c) := O2.out.cell 1
    have o2 : w2.cell? ⟨w.heap.size, 2, none⟩ = some (.slice C m d) := O2.out.cell 2
    obtain ⟨t1, t2⟩ := encT_yes k2
    have T1 := Lib.hid t1
    have T2 := Lib.hid t2
    have HC := Lib.hid h1
    have ksz := Lib.hid ((keyB_iff key).1 k1)
    clear t1 t2 k1 k2 k3 h1
    go_wp2_with fail
    clear o0 o1 o2
    refine (dabsent_any key A C n c m d a l _ HN.out HM.out).mono ?_
    rintro e w3 ⟨rfl, hb⟩
    have B3 := Lib.hid (bl_then B2.out hb)
    have O3 := Lib.hid (O2.out.below hb O2.out.lt)
    have R3 := Lib.hid (R2.out.below hb R2.out.lt)
    clear hb
    by_cases h2 : absB a l = true
    · have HP := Lib.hid (show packE key a l = 110 by rw [packE, if_pos HC.out, if_pos h2])
      have HD := Lib.hid (show packC key a l = (⟨#[]⟩, ⟨#[]⟩) by rw [packC, HP.out]; rfl)
      have r0 : w3.cell? ⟨w.heap.size + 1, 0, none⟩ = some (.string ⟨#[]⟩) := R3.out.cell 0
      have r1 : w3.cell? ⟨w.heap.size + 1, 1, none⟩ = some (.string ⟨#[]⟩) := R3.out.cell 1
      have r2 := R3.out.frozen 0
      have r3 := R3.out.frozen 1
      rw [h2]
      clear h2
      go_wp2
      exact bodyPost_ret (v := .tuple #[.agg #[.string ⟨#[]⟩, .string ⟨#[]⟩], .int .i64 110]) (by simp [results, Try.results39, go_sem, r0, r1, r2, r3]) rfl ⟨by rw [HP.out, HD.out], (B3.out.setCell (p := ⟨w.heap.size + 1, 0, none⟩) (by show w.heap.size ≤ w.heap.size + 1; omega) _).setCell (p := ⟨w.heap.size + 1, 1, none⟩) (by show w.heap.size ≤ w.heap.size + 1; omega) _⟩
    · have h2' : absB a l = false := by simpa using h2
      have HP := Lib.hid (show packE key a l = 0 by rw [packE, if_pos HC.out, if_neg h2])
      have HD := Lib.hid (show packC key a l = (packK key, ⟨(encS a l).toArray⟩) by rw [packC, HP.out]; rfl)
      rw [h2']
      clear h2 h2'
      obtain ⟨P, hP⟩ : ∃ P, P = placeN key := ⟨_, rfl⟩
      have hlt : P < 4096 := by rw [hP]; exact (placeN_lt key).1
      have hPI : placeI key = (P : Int) := by rw [hP]; exact (placeN_lt key).2.symm
      have HPN := Lib.hid hP
      have HPI := Lib.hid hPI
      clear hP hPI
      have o0 : w3.cell? ⟨w.heap.size, 0, none⟩ = some (.string key) := O3.out.cell 0
      go_wp2_with fail
      clear o0
      refine (dplace_yes key K1.out _).mono ?_
      rintro e w4 ⟨rfl, hb⟩
      rw [HPI.out]
      have B4 := Lib.hid (bl_then B3.out hb)
      have O4 := Lib.hid (O3.out.below hb O3.out.lt)
      have R4 := Lib.hid (R3.out.below hb R3.out.lt)
      clear hb
      have o1 : w4.cell? ⟨w.heap.size, 1, none⟩ = some (.slice A n c) := O4.out.cell 1
      have o2 : w4.cell? ⟨w.heap.size, 2, none⟩ = some (.slice C m d) := O4.out.cell 2
      go_wp2_with fail
      clear o1 o2
      refine (refEncO_any A C n c m d a l _ _ _ (HA.out.below B4.out) (HL.out.below B4.out) HN.out HM.out HR.out T1.out T2.out).mono ?_
      rintro e w5 ⟨rfl, hb⟩
      have B5 := Lib.hid (bl_then B4.out hb)
      have O5 := Lib.hid (O4.out.below hb O4.out.lt)
      have R5 := Lib.hid (R4.out.below hb R4.out.lt)
      clear hb
      have K0 := Lib.hid (show w5.cell? ⟨w.heap.size, 0, none⟩ = some (.string key) from O5.out.cell 0)
      have HR5 := Lib.hid (Below.refl w5.heap.size w5)
      have e6 : IntKind.u64.wrap (P : Int) = (P : Int) := IntWalk.u64_in _ (by omega)
      have hcat : ∀ W, (Op.stringOp .add (prefS P) key).run Try.prog W = .ok (.string (prefS P ++ key)) W := fun W => run_string_add_sum W _ _ (by have := ksz.out.2; rw [prefS_size]; omega)
      go_wp2
      refine wp_region_held_drew (S := fun w' => w'.cell? ⟨w.heap.size, 0, none⟩ = some (.string key)) (by kernel_rfl) ?_ (fun hHeld => ?_)
      · exact K0.out
      refine wpAnyH_take (i := 0) (oi := { dst := some 30, op := Op.move (Operand.tmp 5), type := 3, pos := "ref.go:143", after := #[], guard := none }) (v := ?_) rfl (by kernel_rfl) (by kernel_rfl) (by kernel_rfl) (fun _ _ _ h => h) (Or.inl ⟨by rfl, ?_⟩) (by assumption) ?_
      rotate_left
      · intro w_ hSw
        (try dsimp only at hSw)
        go_simp
        first | done | with_reducible rfl
      try simp only [Act.put, List.setIfInBounds_toArray, List.set_cons_zero, List.set_cons_succ]
      refine wpAnyH_take (i := 1) (oi := { dst := some 31, op := Op.convert 3 39 (Operand.tmp 30), type := 39, pos := "ref.go:143", after := #[{ on := 0, ground := Ground.data }], guard := none }) (v := ?_) rfl (by kernel_rfl) (by kernel_rfl) (by kernel_rfl) (fun _ _ _ h => h) (Or.inl ⟨by rfl, ?_⟩) (by assumption) ?_
      rotate_left
      · intro w_ hSw
        (try dsimp only at hSw)
        go_simp
        first | done | with_reducible rfl
      try simp only [Act.put, List.setIfInBounds_toArray, List.set_cons_zero, List.set_cons_succ]
      refine wpAnyH_take (i := 3) (oi := { dst := some 33, op := Op.fieldAddr 27 (Operand.tmp 1) 0, type := 0, pos := "ref.go:143", after := #[], guard := none }) (v := ?_) rfl (by kernel_rfl) (by kernel_rfl) (by kernel_rfl) (fun _ _ _ h => h) (Or.inl ⟨by rfl, ?_⟩) (by assumption) ?_
      rotate_left
      · intro w_ hSw
        (try dsimp only at hSw)
        go_simp
        first | done | with_reducible rfl
      try simp only [Act.put, List.setIfInBounds_toArray, List.set_cons_zero, List.set_cons_succ]
      refine wpAnyH_take (i := 4) (oi := { dst := some 34, op := Op.load 9 (Operand.tmp 33), type := 9, pos := "ref.go:143", after := #[{ on := 3, ground := Ground.data }], guard := none }) (v := ?_) rfl (by kernel_rfl) (by kernel_rfl) (by kernel_rfl) (fun _ _ _ h => h) (Or.inl ⟨by rfl, ?_⟩) (by assumption) ?_
      rotate_left
      · intro w_ hSw
        (try dsimp only at hSw)
        go_simp
        first | done | with_reducible rfl
      try simp only [Act.put, List.setIfInBounds_toArray, List.set_cons_zero, List.set_cons_succ]
      refine wpAnyH_take (i := 6) (oi := { dst := some 36, op := Op.move (Operand.tmp 7), type := 9, pos := "ref.go:143", after := #[], guard := none }) (v := ?_) rfl (by kernel_rfl) (by kernel_rfl) (by kernel_rfl) (fun _ _ _ h => h) (Or.inl ⟨by rfl, ?_⟩) (by assumption) ?_
      rotate_left
      · intro w_ hSw
        (try dsimp only at hSw)
        go_simp
        first | done | with_reducible rfl
      try simp only [Act.put, List.setIfInBounds_toArray, List.set_cons_zero, List.set_cons_succ]
      refine wpAnyH_ready (rs := [2]) (by kernel_rfl) (by simp) ?_
      refine AllReadyH.cons (o := { dst := some 32, op := Op.call { callee := Callee.value (Operand.func 89), args := #[Operand.tmp 31, Operand.const (Value.int IntKind.i64 2)], argTypes := #[39, 3] }, type := 9, pos := "ref.go:143", after := #[{ on := 1, ground := Ground.data }], guard := none }) rfl (fun K hK => ?_) (AllReadyH.nil)
      go_simp
      refine (dfixed2_any P hlt _).mono ?_
      rintro e w6 ⟨rfl, hb2⟩
      have N_ := Lib.hid (bl_then (w := w5) (by repeat (first | exact HR5.out | refine bl_drewN ?_ _ | refine bl_drew ?_ | refine bl_alloc ?_ _)) hb2)
      clear hb2 HR5
      have HR5 := N_
      clear N_
      have R6 := Lib.hid (R5.out.below HR5.out R5.out.lt)
      have r0 : w6.cell? ⟨w.heap.size + 1, 0, none⟩ = some (.string ⟨#[]⟩) := R6.out.cell 0
      have r1 : w6.cell? ⟨w.heap.size + 1, 1, none⟩ = some (.string ⟨#[]⟩) := R6.out.cell 1
      have r2 := R6.out.frozen 0
      have r3 := R6.out.frozen 1
      refine hK.out _ _ ?_ (fun hHeld => ?_)
      · first | go_keep | exact (HR5.out.cell (World.block_lt_of_cell? w5 _ K0.out)).trans K0.out
      clear hK K
      try simp only [Act.put, List.setIfInBounds_toArray, List.set_cons_zero, List.set_cons_succ]
      refine wpAnyH_take (i := 5) (oi := { dst := some 35, op := Op.binOp BinOp.add 9 (Operand.tmp 32) (Operand.tmp 34) 9, type := 9, pos := "ref.go:143", after := #[{ on := 2, ground := Ground.data }, { on := 4, ground := Ground.data }], guard := none }) (v := ?_) rfl (by kernel_rfl) (by kernel_rfl) (by kernel_rfl) (fun _ _ _ h => h) (Or.inl ⟨by rfl, ?_⟩) (by assumption) ?_
      rotate_left
      · intro w_ hSw
        (try dsimp only at hSw)
        go_simp
        first | done | with_reducible rfl
      try simp only [Act.put, List.setIfInBounds_toArray, List.set_cons_zero, List.set_cons_succ]
      refine wpAnyH_take (i := 7) (oi := { dst := some 37, op := Op.build 48 #[(0, Operand.tmp 35), (1, Operand.tmp 36)], type := 48, pos := "ref.go:143", after := #[{ on := 5, ground := Ground.data }, { on := 6, ground := Ground.data }], guard := none }) (v := ?_) rfl (by kernel_rfl) (by kernel_rfl) (by kernel_rfl) (fun _ _ _ h => h) (Or.inl ⟨by rfl, ?_⟩) (by assumption) ?_
      rotate_left
      · intro w_ hSw
        (try dsimp only at hSw)
        go_simp
        first | done | with_reducible rfl
      try simp only [Act.put, List.setIfInBounds_toArray, List.set_cons_zero, List.set_cons_succ]
      refine wpAnyH_ready (rs := [8]) (by kernel_rfl) (by simp) ?_
      refine AllReadyH.cons (o := { dst := none, op := Op.store 48 (Operand.tmp 2) (Operand.tmp 37), type := 0, pos := "ref.go:143", after := #[{ on := 7, ground := Ground.data }, { on := 2, ground := Ground.chain }, { on := 0, ground := Ground.phase }, { on := 1, ground := Ground.phase }, { on := 2, ground := Ground.phase }, { on := 3, ground := Ground.phase }, { on := 4, ground := Ground.phase }, { on := 5, ground := Ground.phase }, { on := 6, ground := Ground.phase }, { on := 7, ground := Ground.phase }], guard := none }) rfl (fun K hK => ?_) (AllReadyH.nil)
      go_simp
      skip
      refine hK.out _ _ ?_ (fun hHeld => ?_)
      · first | go_keep | exact (HR5.out.cell (World.block_lt_of_cell? w5 _ K0.out)).trans K0.out
      clear hK K
      try simp only [Act.put, List.setIfInBounds_toArray, List.set_cons_zero, List.set_cons_succ]
      refine wpAnyH_take (i := 9) (oi := { dst := some 3, op := Op.assign (Operand.const (Value.int IntKind.i64 0)), type := 33, pos := "ref.go:143", after := #[{ on := 8, ground := Ground.chain }, { on := 0, ground := Ground.phase }, { on := 1, ground := Ground.phase }, { on := 2, ground := Ground.phase }, { on := 3, ground := Ground.phase }, { on := 4, ground := Ground.phase }, { on := 5, ground := Ground.phase }, { on := 6, ground := Ground.phase }, { on := 7, ground := Ground.phase }, { on := 8, ground := Ground.phase }], guard := none }) (v := ?_) rfl (by kernel_rfl) (by kernel_rfl) (by kernel_rfl) (fun _ _ _ h => h) (Or.inl ⟨by rfl, ?_⟩) (by assumption) ?_
      rotate_left
      · intro w_ hSw
        (try dsimp only at hSw)
        go_simp
        first | done | with_reducible rfl
      try simp only [Act.put, List.setIfInBounds_toArray, List.set_cons_zero, List.set_cons_succ]
      refine wpAnyH_done (by kernel_rfl) ?_ _
      go_wp2
      exact bodyPost_ret (v := .tuple #[.agg #[.string (prefS P ++ key), .string ⟨(encS a l).toArray⟩], .int .i64 0]) (by simp [results, Try.results39, go_sem, r0, r1, r2, r3]) rfl ⟨by rw [HP.out, HD.out, packK, ← HPN.out], by repeat (first | exact bl_then B5.out HR5.out | refine bl_drewN ?_ _ | refine bl_drew ?_ | refine Below.setCell ?_ (by show w.heap.size ≤ w.heap.size + 1; omega) _)⟩
  · have HP := Lib.hid (show packE key a l = chkE key a l by rw [packE, if_neg h1])
    have HD := Lib.hid (show packC key a l = (⟨#[]⟩, ⟨#[]⟩) by rw [packC, HP.out, if_neg h1])
    obtain ⟨x, hx⟩ : ∃ x, x = chkE key a l := ⟨_, rfl⟩
    rw [← hx] at h1 HP ⊢
    have q1 : (x != 0) = true := by simpa using h1
    have q2 : decide (x = 0) = false := by simpa using h1
    have r0 : w2.cell? ⟨w.heap.size + 1, 0, none⟩ = some (.string ⟨#[]⟩) := R2.out.cell 0
    have r1 : w2.cell? ⟨w.heap.size + 1, 1, none⟩ = some (.string ⟨#[]⟩) := R2.out.cell 1
    have r2 := R2.out.frozen 0
    have r3 := R2.out.frozen 1
    clear hx h1
    go_wp2
    exact bodyPost_ret (v := .tuple #[.agg #[.string ⟨#[]⟩, .string ⟨#[]⟩], .int .i64 x]) (by simp [results, Try.results39, go_sem, r0, r1, r2, r3]) rfl ⟨by rw [HP.out, HD.out], (B2.out.setCell (p := ⟨w.heap.size + 1, 0, none⟩) (by show w.heap.size ≤ w.heap.size + 1; omega) _).setCell (p := ⟨w.heap.size + 1, 1, none⟩) (by show w.heap.size ≤ w.heap.size + 1; omega) _⟩
end Go.Proofs.Ytljfigikkajlnaa

namespace Go.Proofs.Ytljfigikkajlnaa
open Go.RowKit Go.Lib Go.Proofs.YtljfigikkajlnaaW.PrintWords
set_option linter.unusedVariables false
set_option linter.unusedSimpArgs false

theorem eqCell (d : Nat) (w : World) (a b a' b' : ByteArray) :
    (Op.equalIn (d + 2) 48 (.agg #[.string a, .string b]) (.agg #[.string a', .string b'])).run Try.prog w = .ok (decide (a = a') && decide (b = b')) w := by
  have : (decide (a = a') && decide (b = b')) = ((a.toList == a'.toList) && (b.toList == b'.toList)) := by rw [str_eq, str_eq]
  rw [this]
  refine eqA_of Try.underlying48 (by kernel_rfl) ?_
  refine eqf_cons (by rfl) (by go_simp; rfl) (by go_simp; rfl) (by go_simp) ?_
  exact eqf_last (by rfl) (by go_simp; rfl) (by go_simp; rfl) (by go_simp)
attribute [local go_sem high] eqCell
def kd (k : ByteArray) : ByteArray := k.extract 2 k.size
theorem kdL (k : ByteArray) : (kd k).data.toList = k.data.toList.drop 2 := extract_to_end k 2
def unpB (k v : ByteArray) : Bool := decide (2 ≤ k.size) && decB v.data.toList && decide (packE (kd k) (decA v.data.toList) (decL v.data.toList) = 0) && decide (packK (kd k) = k)
def unpK (k v : ByteArray) : ByteArray := if unpB k v then kd k else ⟨#[]⟩
def unpA (k v : ByteArray) : List Dot := if unpB k v then decA v.data.toList else []
def unpL (k v : ByteArray) : List Sib := if unpB k v then decL v.data.toList else []
def unpE (k v : ByteArray) : Int := if unpB k v then 0 else 4
theorem unp_no {k v : ByteArray} (h : unpB k v = false) : unpK k v = ⟨#[]⟩ ∧ unpA k v = [] ∧ unpL k v = [] ∧ unpE k v = 4 := by simp [unpK, unpA, unpL, unpE, h]
theorem unp_yes {k v : ByteArray} (h : unpB k v = true) : unpK k v = kd k ∧ unpA k v = decA v.data.toList ∧ unpL k v = decL v.data.toList ∧ unpE k v = 0 := by simp [unpK, unpA, unpL, unpE, h]
theorem dec_str (b : List UInt8) : StR (decA b) (decL b) := by
  unfold decA decL
  split
  · refine ⟨fun d hd => ?_, fun x hx => ?_⟩
    · have := takeV_in _ _ d hd
      exact ⟨this.2.2.1, this.1, this.2.1⟩
    · obtain ⟨y, hy, rfl⟩ := List.mem_map.1 hx
      have := (takeS_in _ y hy).1
      exact ⟨this.2.2.1, this.1, this.2.1⟩
  · exact ⟨fun d hd => (by cases hd), fun d hd => (by cases hd)⟩
theorem dec_lens (b : List UInt8) : (decA b).length ≤ 64 ∧ (decL b).length ≤ 64 := by
  unfold decA decL
  split
  · exact ⟨takeV_len _ _, by rw [srL_len]; exact takeS_len _⟩
  · simp
theorem decE_cases (b : List UInt8) : (decB b = true ∧ decE b = 0) ∨ (decB b = false ∧ decE b = 110) := by
  rcases h : decB b with _ | _
  · exact .inr ⟨rfl, by simp [decE, h]⟩
  · exact .inl ⟨rfl, by simp [decE, h]⟩
theorem unp_dec {k v : ByteArray} (h : decB v.data.toList = false) : unpB k v = false := by simp [unpB, h]

set_option maxRecDepth 100000 in
set_option maxHeartbeats 6400000 in
theorem dunpack_any (k v : ByteArray) (w : World) (hk : k.size ≤ 140737488355328) (hv : v.size ≤ 140737488355328) :
    Calls Try.prog 21 #[.agg #[.string k, .string v]] w fun e w' => ∃ v1 v2, e = .returned (.tuple #[.agg #[.string (unpK k v), v1, v2], .int .i64 (unpE k v)]) ∧ OwnS w' w.heap.size v1 v2 (unpA k v) (unpL k v) ∧ Below w.heap.size w w' := by
  go_enter Try.func21, Try.ntmps21
  by_cases h1 : k.size < 2
  · have HV := Lib.hid (unp_no (show unpB k v = false by simp [unpB]; intro h; omega))
    have d1 : decide ((k.size : Int) < 2) = true := by simp; omega
    have d2 : decide (k.size < 2) = true := by simp; omega
    clear h1
    go_wp2
    exact bodyPost_ret (v := .tuple #[.agg #[.string ⟨#[]⟩, .slice none 0 0, .slice none 0 0], .int .i64 4]) (by simp [results, Try.results21, go_sem]) rfl ⟨_, _, by rw [HV.out.2.2.2, HV.out.1], by rw [HV.out.2.1, HV.out.2.2.1]; exact ⟨GR.Own.nil _ _ _, GR.Own.nil _ _ _⟩, by
      repeat (first | exact Below.refl _ _ | refine Below.setCell ?_ (by simp) _ | refine bl_alloc ?_ _)⟩
  · have d1 : decide ((k.size : Int) < 2) = false := by simp; omega
    have d2 : decide (k.size < 2) = false := by simp; omega
    have hk2 : 2 ≤ k.size := by omega
    have l1 : (2 : Int) ≤ (k.size : Int) := by omega
    clear h1
    have dl := dec_lens v.data.toList
    have HStR := Lib.hid (dec_str v.data.toList)
    obtain ⟨a, ha⟩ : ∃ a, decA v.data.toList = a := ⟨_, rfl⟩
    obtain ⟨l, hl⟩ : ∃ l, decL v.data.toList = l := ⟨_, rfl⟩
    rw [ha, hl] at dl
    have HA := Lib.hid ha
    have HL := Lib.hid hl
    have HUB : Hid (unpB k v = (decB v.data.toList && decide (packE (kd k) a l = 0) && decide (packK (kd k) = k))) := Lib.hid (by rw [unpB, ha, hl, decide_eq_true hk2, Bool.true_and])
    have ja : a.length * 16 ≤ 140737488355328 := by omega
    have jl : l.length * 40 ≤ 140737488355328 := by omega
    clear ha hl
    go_wp2_with fail
    obtain ⟨W1, hW1⟩ : ∃ W1 : World, W1 = (w.alloc (.cells #[.string k, .string v] 48)).alloc (.cells #[.string ⟨#[]⟩, .slice none 0 0, .slice none 0 0] 27) := ⟨_, rfl⟩
    rw [← hW1]
    have LW : Hid (Below w.heap.size w W1) := Lib.hid (by rw [hW1]; exact (by repeat (first | exact Below.refl _ _ | refine bl_drewN ?_ _ | refine bl_drew ?_ | refine bl_alloc ?_ _)))
    have XC : Hid (GR.Blk W1 w.heap.size 48 #[.string k, .string v]) := Lib.hid (by rw [hW1]; exact (GR.Blk.new _ _ _).alloc _)
    have XR : Hid (GR.Blk W1 (w.heap.size + 1) 27 #[.string ⟨#[]⟩, .slice none 0 0, .slice none 0 0]) := Lib.hid (by rw [hW1]; exact new_at _ _ _ (by simp))
    clear hW1
    refine (refDecode_any v _ hv).mono ?_
    rintro e w2 ⟨v1, v2, rfl, ho, hb⟩
    rw [HA.out, HL.out] at ho
    obtain ⟨A, n, c, rfl⟩ := own_slice ho.d ja
    obtain ⟨C, m, d, rfl⟩ := own_slice ho.s jl
    obtain rfl : n = a.length := own_n' ho.d
    obtain rfl : m = l.length := own_n' ho.s
    have B2 := Lib.hid (bl_then LW.out hb)
    have C2 := Lib.hid (XC.out.below hb XC.out.lt)
    have R2 := Lib.hid (XR.out.below hb XR.out.lt)
    have O2 := Lib.hid (ho.base LW.out.size)
    clear ho hb
    obtain ⟨z, hz⟩ : ∃ z, decE v.data.toList = z := ⟨_, rfl⟩
    rw [hz]
    have HZ := Lib.hid hz
    clear hz
    have rn : w.heap.size ≠ w.heap.size + 1 := by omega
    have hsz2 : w.heap.size + 1 < w2.heap.size := R2.out.lt
    have hsz1 : w.heap.size < w2.heap.size := C2.out.lt
    go_wp2
    obtain ⟨W3, hW3⟩ : ∃ W3 : World, W3 = w2.alloc (.cells #[.slice A a.length c, .slice C l.length d] 25) := ⟨_, rfl⟩
    rw [← hW3]
    have L3 : Hid (Below w2.heap.size w2 W3) := Lib.hid (by rw [hW3]; exact (by repeat (first | exact Below.refl _ _ | refine bl_drewN ?_ _ | refine bl_drew ?_ | refine bl_alloc ?_ _)))
    have S3 : Hid (GR.Blk W3 w2.heap.size 25 #[.slice A a.length c, .slice C l.length d]) := Lib.hid (by rw [hW3]; exact GR.Blk.new _ _ _)
    clear hW3
    have K0 := Lib.hid (show W3.cell? ⟨w.heap.size, 0, none⟩ = some (.string k) from (C2.out.below L3.out hsz1).cell 0)
    have K1 := Lib.hid (show W3.cell? ⟨w2.heap.size, 0, none⟩ = some (.slice A a.length c) from S3.out.cell 0)
    have K2 := Lib.hid (show W3.cell? ⟨w2.heap.size, 1, none⟩ = some (.slice C l.length d) from S3.out.cell 1)
    have HR3 := Lib.hid (Below.refl W3.heap.size W3)
    refine wp_region_held_drew (S := fun w' => w'.cell? ⟨w.heap.size, 0, none⟩ = some (.string k) ∧ w'.cell? ⟨w2.heap.size, 0, none⟩ = some (.slice A a.length c) ∧ w'.cell? ⟨w2.heap.size, 1, none⟩ = some (.slice C l.length d)) (by kernel_rfl) ?_ (fun hHeld => ?_)
    · exact ⟨K0.out, K1.out, K2.out⟩
    refine wpAnyH_take (i := 0) (oi := { dst := some 19, op := Op.fieldAddr 48 (Operand.tmp 1) 0, type := 0, pos := "ref.go:152", after := #[], guard := none }) (v := ?_) rfl (by kernel_rfl) (by kernel_rfl) (by kernel_rfl) (fun _ _ _ h => h) (Or.inl ⟨by rfl, ?_⟩) (by assumption) ?_
    rotate_left
    · intro w_ hSw
      (try dsimp only at hSw)
      go_simp
      first | done | with_reducible rfl
    try simp only [Act.put, List.setIfInBounds_toArray, List.set_cons_zero, List.set_cons_succ]
    refine wpAnyH_take (i := 1) (oi := { dst := some 20, op := Op.load 9 (Operand.tmp 19), type := 9, pos := "ref.go:152", after := #[{ on := 0, ground := Ground.data }], guard := none }) (v := ?_) rfl (by kernel_rfl) (by kernel_rfl) (by kernel_rfl) (fun _ _ _ h => h) (Or.inl ⟨by rfl, ?_⟩) (by assumption) ?_
    rotate_left
    · intro w_ hSw
      (try dsimp only at hSw)
      go_simp
      first | done | with_reducible rfl
    try simp only [Act.put, List.setIfInBounds_toArray, List.set_cons_zero, List.set_cons_succ]
    refine wpAnyH_take (i := 2) (oi := { dst := some 21, op := Op.slice 9 (Operand.tmp 20) (some (Operand.const (Value.int IntKind.i64 2))) none none, type := 9, pos := "ref.go:152", after := #[{ on := 1, ground := Ground.data }], guard := none }) (v := ?_) rfl (by kernel_rfl) (by kernel_rfl) (by kernel_rfl) (fun _ _ _ h => h) (Or.inl ⟨by rfl, ?_⟩) (by assumption) ?_
    rotate_left
    · intro w_ hSw
      (try dsimp only at hSw)
      go_simp
      first | done | with_reducible rfl
    try simp only [Act.put, List.setIfInBounds_toArray, List.set_cons_zero, List.set_cons_succ]
    refine wpAnyH_take (i := 3) (oi := { dst := some 22, op := Op.load 25 (Operand.tmp 4), type := 25, pos := "ref.go:152", after := #[], guard := none }) (v := ?_) rfl (by kernel_rfl) (by kernel_rfl) (by kernel_rfl) (fun _ _ _ h => h) (Or.inl ⟨by rfl, ?_⟩) (by assumption) ?_
    rotate_left
    · intro w_ hSw
      (try dsimp only at hSw)
      go_simp
      first | done | with_reducible rfl
    try simp only [Act.put, List.setIfInBounds_toArray, List.set_cons_zero, List.set_cons_succ]
    refine wpAnyH_take (i := 4) (oi := { dst := some 23, op := Op.build 27 #[(0, Operand.tmp 21), (1, Operand.tmp 22)], type := 27, pos := "ref.go:152", after := #[{ on := 2, ground := Ground.data }, { on := 3, ground := Ground.data }], guard := none }) (v := ?_) rfl (by kernel_rfl) (by kernel_rfl) (by kernel_rfl) (fun _ _ _ h => h) (Or.inl ⟨by rfl, ?_⟩) (by assumption) ?_
    rotate_left
    · intro w_ hSw
      (try dsimp only at hSw)
      go_simp
      first | done | with_reducible rfl
    try simp only [Act.put, List.setIfInBounds_toArray, List.set_cons_zero, List.set_cons_succ]
    refine wpAnyH_ready (rs := [5]) (by kernel_rfl) (by simp) ?_
    refine AllReadyH.cons (o := { dst := some 6, op := Op.alloc 27, type := 0, pos := "ref.go:152", after := #[], guard := none }) rfl (fun K hK => ?_) (AllReadyH.nil)
    go_simp
    skip
    refine hK.out _ _ ?_ (fun hHeld => ?_)
    · exact ⟨(((Below.refl W3.heap.size W3).alloc (Nat.le_refl _) _).cell (World.block_lt_of_cell? W3 _ K0.out)).trans K0.out, (((Below.refl W3.heap.size W3).alloc (Nat.le_refl _) _).cell (World.block_lt_of_cell? W3 _ K1.out)).trans K1.out, (((Below.refl W3.heap.size W3).alloc (Nat.le_refl _) _).cell (World.block_lt_of_cell? W3 _ K2.out)).trans K2.out⟩
    clear hK K
    try simp only [Act.put, List.setIfInBounds_toArray, List.set_cons_zero, List.set_cons_succ]
    refine wpAnyH_ready (rs := [6]) (by kernel_rfl) (by simp) ?_
    refine AllReadyH.cons (o := { dst := none, op := Op.store 27 (Operand.tmp 6) (Operand.tmp 23), type := 0, pos := "ref.go:152", after := #[{ on := 5, ground := Ground.data }, { on := 4, ground := Ground.data }, { on := 0, ground := Ground.phase }, { on := 1, ground := Ground.phase }, { on := 2, ground := Ground.phase }, { on := 3, ground := Ground.phase }, { on := 4, ground := Ground.phase }, { on := 5, ground := Ground.phase }], guard := none }) rfl (fun K hK => ?_) (AllReadyH.nil)
    go_simp
    skip
    refine hK.out _ _ ?_ (fun hHeld => ?_)
    · exact ⟨(((Below.refl W3.heap.size W3).alloc (Nat.le_refl _) _).cell (World.block_lt_of_cell? W3 _ K0.out)).trans K0.out, (((Below.refl W3.heap.size W3).alloc (Nat.le_refl _) _).cell (World.block_lt_of_cell? W3 _ K1.out)).trans K1.out, (((Below.refl W3.heap.size W3).alloc (Nat.le_refl _) _).cell (World.block_lt_of_cell? W3 _ K2.out)).trans K2.out⟩
    clear hK K
    try simp only [Act.put, List.setIfInBounds_toArray, List.set_cons_zero, List.set_cons_succ]
    refine wpAnyH_done (by kernel_rfl) ?_ _
    obtain ⟨W5, hW5⟩ : ∃ W5 : World, W5 = (W3.alloc (.cells #[.string (k.extract 2 k.size), .slice A a.length c, .slice C l.length d] 27)).drew := ⟨_, rfl⟩
    rw [← hW5]
    have L5 : Hid (Below W3.heap.size W3 W5) := Lib.hid (by rw [hW5]; exact (by repeat (first | exact Below.refl _ _ | refine bl_drewN ?_ _ | refine bl_drew ?_ | refine bl_alloc ?_ _)))
    have X5 : Hid (GR.Blk W5 W3.heap.size 27 #[.string (k.extract 2 k.size), .slice A a.length c, .slice C l.length d]) := Lib.hid (by rw [hW5]; exact GR.Blk.drew (GR.Blk.new _ _ _))
    clear hW5
    have L25 := Lib.hid (bl_then L3.out L5.out)
    have R5 := Lib.hid (R2.out.below L25.out hsz2)
    have C5 := Lib.hid (C2.out.below L25.out hsz1)
    have O5 := Lib.hid (O2.out.below L25.out)
    have B5 := Lib.hid (bl_then B2.out L25.out)
    have hrx : w.heap.size + 1 ≠ W3.heap.size := by have := S3.out.lt; omega
    have hxr : W3.heap.size ≠ w.heap.size + 1 := by have := S3.out.lt; omega
    by_cases h0 : z = 0
    · have hB : decB v.data.toList = true := by
        rcases decE_cases v.data.toList with ⟨h, _⟩ | ⟨_, h⟩
        · exact h
        · rw [HZ.out, h0] at h; omega
      have HB := Lib.hid hB
      have HEN := Lib.hid (dec_enc v.data.toList hB)
      subst h0
      clear hB
      have x0 : W5.cell? ⟨W3.heap.size, 0, none⟩ = some (.string (k.extract 2 k.size)) := X5.out.cell 0
      have x1 : W5.cell? ⟨W3.heap.size, 1, none⟩ = some (.slice A a.length c) := X5.out.cell 1
      have x2 : W5.cell? ⟨W3.heap.size, 2, none⟩ = some (.slice C l.length d) := X5.out.cell 2
      go_wp2_with fail
      clear x0 x1 x2
      refine (dpack_any (k.extract 2 k.size) A C a.length c l.length d a l _ (O5.out.d.rd ja).2.2 (O5.out.s.rd jl).2.2 rfl rfl (by have := HStR.out; rw [HA.out, HL.out] at this; exact this)).mono ?_
      rintro e w6 ⟨rfl, hb⟩
      have B6 := Lib.hid (bl_then B5.out hb)
      have R6 := Lib.hid (R5.out.below hb R5.out.lt)
      have C6 := Lib.hid (C5.out.below hb C5.out.lt)
      have X6 := Lib.hid (X5.out.below hb X5.out.lt)
      have O6 := Lib.hid (O5.out.below hb)
      clear hb
      have hrs6 : w.heap.size + 1 < w6.heap.size := R6.out.lt
      have hcs6 : w.heap.size < w6.heap.size := C6.out.lt
      have hxs6 : W3.heap.size < w6.heap.size := X6.out.lt
      obtain ⟨p, hp⟩ : ∃ p, packE (kd k) a l = p := ⟨_, rfl⟩
      obtain ⟨q, hq⟩ : ∃ q, packC (kd k) a l = q := ⟨_, rfl⟩
      have hp' : packE (k.extract 2 k.size) a l = p := hp
      have hq' : packC (k.extract 2 k.size) a l = q := hq
      rw [hp', hq']
      have HPP := Lib.hid hp
      have HQQ := Lib.hid hq
      clear hp hq hp' hq'
      obtain ⟨q1, q2⟩ := q
      have x0 : w6.cell? ⟨W3.heap.size, 0, none⟩ = some (.string (k.extract 2 k.size)) := X6.out.cell 0
      go_upto_region 8 with fail
      obtain ⟨W7, hW7⟩ : ∃ W7 : World, W7 = w6.alloc (.cells #[.string q1, .string q2] 48) := ⟨_, rfl⟩
      rw [← hW7]
      have L7 : Hid (Below w6.heap.size w6 W7) := Lib.hid (by rw [hW7]; exact (by repeat (first | exact Below.refl _ _ | refine bl_drewN ?_ _ | refine bl_drew ?_ | refine bl_alloc ?_ _)))
      have Q7 : Hid (GR.Blk W7 w6.heap.size 48 #[.string q1, .string q2]) := Lib.hid (by rw [hW7]; exact GR.Blk.new _ _ _)
      clear hW7 x0
      have B7 := Lib.hid (bl_then B6.out L7.out)
      have R7 := Lib.hid (R6.out.below L7.out hrs6)
      have C7 := Lib.hid (C6.out.below L7.out hcs6)
      have X7 := Lib.hid (X6.out.below L7.out hxs6)
      have O7 := Lib.hid (O6.out.below L7.out)
      have c0 : W7.cell? ⟨w.heap.size, 0, none⟩ = some (.string k) := C7.out.cell 0
      have c1 : W7.cell? ⟨w.heap.size, 1, none⟩ = some (.string v) := C7.out.cell 1
      have y0 : W7.cell? ⟨w6.heap.size, 0, none⟩ = some (.string q1) := Q7.out.cell 0
      have y1 : W7.cell? ⟨w6.heap.size, 1, none⟩ = some (.string q2) := Q7.out.cell 1
      have x0 : W7.cell? ⟨W3.heap.size, 0, none⟩ = some (.string (k.extract 2 k.size)) := X7.out.cell 0
      have x1 : W7.cell? ⟨W3.heap.size, 1, none⟩ = some (.slice A a.length c) := X7.out.cell 1
      have x2 : W7.cell? ⟨W3.heap.size, 2, none⟩ = some (.slice C l.length d) := X7.out.cell 2
      have r0 : W7.cell? ⟨w.heap.size + 1, 0, none⟩ = some (.string ⟨#[]⟩) := R7.out.cell 0
      have r1 : W7.cell? ⟨w.heap.size + 1, 1, none⟩ = some (.slice none 0 0) := R7.out.cell 1
      have r2 : W7.cell? ⟨w.heap.size + 1, 2, none⟩ = some (.slice none 0 0) := R7.out.cell 2
      have f0 := R7.out.frozen 0
      have f1 := R7.out.frozen 1
      have f2 := R7.out.frozen 2
      by_cases hp0 : p = 0
      · subst hp0
        have hQ : q1 = packK (kd k) ∧ q2 = ⟨(encS a l).toArray⟩ := by
          have := HQQ.out
          rw [packC, if_pos HPP.out] at this
          injection this with h1 h2
          exact ⟨h1.symm, h2.symm⟩
        have hq2 : q2 = v := by
          rw [hQ.2]
          have := HEN.out.2
          rw [HA.out, HL.out] at this
          rw [this]
        by_cases hk1 : q1 = k
        · have hB : unpB k v = true := by rw [HUB.out, HB.out, HPP.out, ← hQ.1, hk1]; simp
          have HV := Lib.hid (unp_yes hB)
          have e1 : decide (q1 = k) = true := by simp [hk1]
          have e2 : decide (q2 = v) = true := by simp [hq2]
          clear hB hk1 hq2 hQ
          have OF : Hid (OwnS (((W7.setCell ⟨w.heap.size + 1, 0, none⟩ (.string (k.extract 2 k.size))).setCell ⟨w.heap.size + 1, 1, none⟩ (.slice A a.length c)).setCell ⟨w.heap.size + 1, 2, none⟩ (.slice C l.length d)) w.heap.size (.slice A a.length c) (.slice C l.length d) a l) := Lib.hid ⟨own_farI (own_farI (own_farI O7.out.d R7.out 0 _ (by decide)) (R7.out.set_ 0 _) 1 _ (by decide)) ((R7.out.set_ 0 _).set_ 1 _) 2 _ (by decide), own_farI (own_farI (own_farI O7.out.s R7.out 0 _ (by decide)) (R7.out.set_ 0 _) 1 _ (by decide)) ((R7.out.set_ 0 _).set_ 1 _) 2 _ (by decide)⟩
          go_wp2
          exact bodyPost_ret (v := .tuple #[.agg #[.string (k.extract 2 k.size), .slice A a.length c, .slice C l.length d], .int .i64 0]) (by simp [results, Try.results21, go_sem, r0, r1, r2, f0, f1, f2, hxr, hrx]) rfl ⟨_, _, by rw [HV.out.2.2.2, HV.out.1]; rfl, by rw [HV.out.2.1, HV.out.2.2.1, HA.out, HL.out]; exact OF.out, by
            repeat (first | exact B7.out | refine Below.setCell ?_ (by show w.heap.size ≤ w.heap.size + 1; omega) _)⟩
        · have HV := Lib.hid (unp_no (show unpB k v = false by rw [HUB.out, ← hQ.1, decide_eq_false hk1]; simp))
          have e1 : decide (q1 = k) = false := decide_eq_false hk1
          clear hk1 hq2 hQ
          go_wp2
          exact bodyPost_ret (v := .tuple #[.agg #[.string ⟨#[]⟩, .slice none 0 0, .slice none 0 0], .int .i64 4]) (by simp [results, Try.results21, go_sem, r0, r1, r2, f0, f1, f2]) rfl ⟨_, _, by rw [HV.out.2.2.2, HV.out.1], by rw [HV.out.2.1, HV.out.2.2.1]; exact ⟨GR.Own.nil _ _ _, GR.Own.nil _ _ _⟩, by
            repeat (first | exact B7.out | refine Below.setCell ?_ (by show w.heap.size ≤ w.heap.size + 1; omega) _)⟩
      · have HV := Lib.hid (unp_no (show unpB k v = false by rw [HUB.out, HPP.out, decide_eq_false hp0]; simp))
        have e1 : (p != 0) = true := by simpa using hp0
        have e2 : decide (p = 0) = false := by simpa using hp0
        clear hp0
        go_wp2
        exact bodyPost_ret (v := .tuple #[.agg #[.string ⟨#[]⟩, .slice none 0 0, .slice none 0 0], .int .i64 4]) (by simp [results, Try.results21, go_sem, r0, r1, r2, f0, f1, f2]) rfl ⟨_, _, by rw [HV.out.2.2.2, HV.out.1], by rw [HV.out.2.1, HV.out.2.2.1]; exact ⟨GR.Own.nil _ _ _, GR.Own.nil _ _ _⟩, by
          repeat (first | exact B7.out | refine Below.setCell ?_ (by show w.heap.size ≤ w.heap.size + 1; omega) _)⟩
    · have HV := Lib.hid (unp_no (unp_dec (k := k) (show decB v.data.toList = false by
        rcases decE_cases v.data.toList with ⟨_, h⟩ | ⟨h, _⟩
        · rw [HZ.out] at h; exact absurd h h0
        · exact h)))
      have e1 : (z != 0) = true := by simpa using h0
      have e2 : decide (z = 0) = false := by simpa using h0
      clear h0
      have r0 : W5.cell? ⟨w.heap.size + 1, 0, none⟩ = some (.string ⟨#[]⟩) := R5.out.cell 0
      have r1 : W5.cell? ⟨w.heap.size + 1, 1, none⟩ = some (.slice none 0 0) := R5.out.cell 1
      have r2 : W5.cell? ⟨w.heap.size + 1, 2, none⟩ = some (.slice none 0 0) := R5.out.cell 2
      have f0 := R5.out.frozen 0
      have f1 := R5.out.frozen 1
      have f2 := R5.out.frozen 2
      go_wp2
      exact bodyPost_ret (v := .tuple #[.agg #[.string ⟨#[]⟩, .slice none 0 0, .slice none 0 0], .int .i64 4]) (by simp [results, Try.results21, go_sem, r0, r1, r2, f0, f1, f2]) rfl ⟨_, _, by rw [HV.out.2.2.2, HV.out.1], by rw [HV.out.2.1, HV.out.2.2.1]; exact ⟨GR.Own.nil _ _ _, GR.Own.nil _ _ _⟩, by
        repeat (first | exact B5.out | refine Below.setCell ?_ (by show w.heap.size ≤ w.heap.size + 1; omega) _)⟩
end Go.Proofs.Ytljfigikkajlnaa

namespace Go.Proofs.Ytljfigikkajlnaa
open Go.RowKit Go.Lib
set_option linter.unusedVariables false
set_option linter.unusedSimpArgs false

theorem pre_bytes (n : Nat) : (prefS n).data.toList = [UInt8.ofNat (n / 256), UInt8.ofNat (n % 256)] := by
  rw [prefS, strOfNums_data]
  simp only [List.map_cons, List.map_nil]
  rw [show ((n : Int) / 256).toNat = n / 256 by omega, show ((n : Int) % 256).toNat = n % 256 by omega]
theorem two_of {L : List UInt8} (h : 2 ≤ L.length) : ∃ x y t, L = x :: y :: t := by
  match L, h with
  | x :: y :: t, _ => exact ⟨x, y, t, rfl⟩
theorem unp_key {k : ByteArray} (h : 2 ≤ k.size) : packK (kd k) = k ↔ n2 (k.data.toList.take 2) = placeN (kd k) := by
  obtain ⟨x, y, t, hL⟩ := two_of (show 2 ≤ k.data.toList.length from h)
  have hlt := (placeN_lt (kd k)).1
  obtain ⟨P, hP⟩ : ∃ P, placeN (kd k) = P := ⟨_, rfl⟩
  rw [hP] at hlt
  have hx := x.toNat_lt
  have hy := y.toNat_lt
  have e1 : (packK (kd k)).data.toList = UInt8.ofNat (P / 256) :: UInt8.ofNat (P % 256) :: t := by
    rw [packK, hP]
    have : (prefS P ++ kd k : ByteArray).data.toList = (prefS P).data.toList ++ (kd k).data.toList := by simp
    rw [this, pre_bytes, kdL, hL]
    rfl
  rw [hP, hL]
  show _ ↔ x.toNat * 256 + y.toNat = P
  constructor
  · intro e
    rw [← e, e1] at hL
    injection hL with h1 hL
    injection hL with h2 _
    rw [← h1, ← h2, UInt8.toNat_ofNat', UInt8.toNat_ofNat']
    omega
  · intro e
    apply ByteArray.ext
    apply Array.toList_inj.1
    rw [e1, hL, show P / 256 = x.toNat by omega, show P % 256 = y.toNat by omega, UInt8.ofNat_toNat, UInt8.ofNat_toNat]
theorem pack_no {key : ByteArray} {a : List Dot} {l : List Sib} (h : keyB key = false) : packE key a l ≠ 0 := by
  have : chkE key a l = 130 := by rw [chkE, h]; rfl
  rw [packE, if_neg (by rw [this]; decide), this]; decide
theorem sta_abs {a : List Dot} {l : List Sib} (h : staB a l = true) (h0 : a.length = 0) : absB a l = true := by
  have ha : a = [] := List.eq_nil_of_length_eq_zero h0
  subst ha
  have hl : l = [] := by
    match l, h with
    | [], _ => rfl
    | x :: l, h =>
      have h1 := ((sta_ok h).2.2 x (by simp)).1
      simp only [cov, cnt, look, Bool.and_eq_true, decide_eq_true_eq] at h1
      simp at h1
      omega
  subst hl
  rfl
theorem pack_abs {key : ByteArray} {a : List Dot} {l : List Sib} (h : staB a l = true) (h0 : a.length = 0) : packE key a l ≠ 0 := by
  rw [packE]
  split
  · rw [sta_abs h h0]; decide
  · assumption
theorem pack_big {key : ByteArray} {a : List Dot} {l : List Sib} (h : 280 < (encS a l).length) : packE key a l ≠ 0 := by
  rw [packE]
  split
  · rename_i h1
    have := (chk_cases h1).2.2
    omega
  · assumption
theorem pack_yes {key : ByteArray} {a : List Dot} {l : List Sib} (h1 : keyB key = true) (h2 : staB a l = true) (h3 : ¬ 280 < (encS a l).length) (h4 : a.length ≠ 0) : packE key a l = 0 := by
  have : chkE key a l = 0 := by rw [chkE, h1, h2]; simp [h3]
  rw [packE, if_pos this, if_neg (by simp [absB, h4])]
theorem absent_any (A C : Option Addr) (n c m d : Nat) (w : World) :
    Calls Try.prog 46 #[.agg #[.slice A n c, .slice C m d]] w fun e w' => e = .returned (.bool (decide (n = 0))) ∧ Below w.heap.size w w' := by
  by_cases h1 : n = 0
  · subst h1
    go_enter Try.func46, Try.ntmps46
    go_wp2
    go_ret
    exact ⟨rfl, (Below.refl _ _).alloc (Nat.le_refl _) _⟩
  · have e1 : ((n : Int) == 0) = false := by simp; omega
    have e2 : decide ((n : Int) = 0) = false := by simp; omega
    have e3 : decide (n = 0) = false := by simp; omega
    have e4 : (n == 0) = false := by simp; omega
    have HE := Lib.hid e3
    clear h1
    go_enter Try.func46, Try.ntmps46
    go_wp2
    go_ret
    exact ⟨by rw [HE.out]; rfl, (Below.refl _ _).alloc (Nat.le_refl _) _⟩

set_option maxRecDepth 100000 in
set_option maxHeartbeats 12800000 in
theorem unpack_any (k v : ByteArray) (w : World) (hk : k.size ≤ 140737488355328) (hv : v.size ≤ 140737488355328) :
    Calls Try.prog 22 #[.agg #[.string k, .string v]] w fun e w' => ∃ v1 v2, e = .returned (.tuple #[.agg #[.string (unpK k v), v1, v2], .int .i64 (unpE k v)]) ∧ OwnS w' w.heap.size v1 v2 (unpA k v) (unpL k v) ∧ Below w.heap.size w w' := by
  have dl := dec_lens v.data.toList
  obtain ⟨a, ha⟩ : ∃ a, decA v.data.toList = a := ⟨_, rfl⟩
  obtain ⟨l, hl⟩ : ∃ l, decL v.data.toList = l := ⟨_, rfl⟩
  rw [ha, hl] at dl
  have HA := Lib.hid ha
  have HL := Lib.hid hl
  have ja : a.length * 16 ≤ 140737488355328 := by omega
  have jl : l.length * 40 ≤ 140737488355328 := by omega
  clear ha hl
  go_enter Try.func22, Try.ntmps22
  go_wp2_with fail
  obtain ⟨W1, hW1⟩ : ∃ W1 : World, W1 = (w.alloc (.cells #[.string k, .string v] 48)).alloc (.cells #[.string ⟨#[]⟩, .slice none 0 0, .slice none 0 0] 27) := ⟨_, rfl⟩
  rw [← hW1]
  have LW : Hid (Below w.heap.size w W1) := Lib.hid (by rw [hW1]; exact (by repeat (first | exact Below.refl _ _ | refine bl_drewN ?_ _ | refine bl_drew ?_ | refine bl_alloc ?_ _)))
  have XC : Hid (GR.Blk W1 w.heap.size 48 #[.string k, .string v]) := Lib.hid (by rw [hW1]; exact (GR.Blk.new _ _ _).alloc _)
  have XR : Hid (GR.Blk W1 (w.heap.size + 1) 27 #[.string ⟨#[]⟩, .slice none 0 0, .slice none 0 0]) := Lib.hid (by rw [hW1]; exact new_at _ _ _ (by simp))
  clear hW1
  have hg0 : w.heap.size + 1 < W1.heap.size := XR.out.lt
  refine (newReader_any k W1).mono ?_
  rintro e w2 ⟨rfl, h2, hb⟩
  have D2 := Lib.hid h2
  have B2 := Lib.hid (bl_then LW.out hb)
  have C2 := Lib.hid (XC.out.below hb XC.out.lt)
  have R2 := Lib.hid (XR.out.below hb XR.out.lt)
  clear h2 hb
  go_wp2_with fail
  refine (rfixed2_any W1.heap.size k _ _ D2.out hk).mono ?_
  rintro e w3 ⟨rfl, h3, g3⟩
  have D3 := Lib.hid h3
  have B3 := Lib.hid (B2.out.trans ((chg_g g3).below B2.out.size (fun i e => by subst e; omega)))
  have C3 := Lib.hid (C2.out.grown g3 (fun e => by injection e with e; omega))
  have R3 := Lib.hid (R2.out.grown g3 (fun e => by injection e with e; omega))
  clear h3 g3
  by_cases h1 : k.size < 2
  · have hr : rdR k.data.toList 2 ⟨0, 0⟩ = ([], ⟨0, 10⟩) := by rw [rdR, if_pos rfl, if_pos (by show k.size - 0 < 2; omega)]
    rw [hr] at D3 ⊢
    have HV := Lib.hid (unp_no (show unpB k v = false by simp [unpB]; intro h; omega))
    clear hr
    go_wp2_with fail
    refine (rleft_any W1.heap.size k _ _ D3.out hk).mono ?_
    rintro e w4 ⟨rfl, hd⟩
    have L4 := Lib.hid (hd.below w3.heap.size)
    clear hd
    go_wp2_with fail
    refine (rraw_any W1.heap.size k _ _ _ (D3.out.below L4.out) hk (by omega)).mono ?_
    rintro e w5 ⟨rfl, h5, g5⟩
    have hr5 : rdR k.data.toList k.size ⟨0, 10⟩ = ([], ⟨0, 10⟩) := by rw [rdR, if_neg (by show ¬ (10 : Int) = 0; decide)]
    have D5 : Hid (Rdr w5 W1.heap.size k ⟨0, 10⟩) := Lib.hid (by have := h5; rw [hr5] at this; exact this)
    have B5 := Lib.hid ((bl_then B3.out L4.out).trans ((chg_g g5).below (bl_then B3.out L4.out).size (fun i e => by subst e; omega)))
    have C5 := Lib.hid ((C3.out.below L4.out C3.out.lt).grown g5 (fun e => by injection e with e; omega))
    have R5 := Lib.hid ((R3.out.below L4.out R3.out.lt).grown g5 (fun e => by injection e with e; omega))
    rw [hr5]
    clear h5 g5 hr5
    go_wp2_with fail
    refine (place_no ⟨#[]⟩ (by decide) _).mono ?_
    rintro e w6 ⟨rfl, rfl⟩
    have D6 := D5
    have B6 := B5
    have C6 := C5
    have R6 := R5
    have c1 : w5.cell? ⟨w.heap.size, 1, none⟩ = some (.string v) := C6.out.cell 1
    go_wp2_with fail
    clear c1
    refine (decode_any v _ hv).mono ?_
    rintro e w7 ⟨v1, v2, rfl, ho, hb⟩
    rw [HA.out, HL.out] at ho
    obtain ⟨A, n, c, rfl⟩ := own_slice ho.d ja
    obtain ⟨C, m, d, rfl⟩ := own_slice ho.s jl
    obtain rfl : n = a.length := own_n' ho.d
    obtain rfl : m = l.length := own_n' ho.s
    have O7 := Lib.hid (ho.base B6.out.size)
    have B7 := Lib.hid (bl_then B6.out hb)
    have C7 := Lib.hid (C6.out.below hb C6.out.lt)
    have R7 := Lib.hid (R6.out.below hb R6.out.lt)
    have D7 := Lib.hid (D6.out.below hb)
    clear ho hb
    obtain ⟨z, hz⟩ : ∃ z, decE v.data.toList = z := ⟨_, rfl⟩
    rw [hz]
    have HZ := Lib.hid hz
    clear hz
    go_wp2_with fail
    obtain ⟨W8, hW8⟩ : ∃ W8 : World, W8 = w7.alloc (.cells #[.slice A a.length c, .slice C l.length d] 25) := ⟨_, rfl⟩
    rw [← hW8]
    have L8 : Hid (Below w7.heap.size w7 W8) := Lib.hid (by rw [hW8]; exact (by repeat (first | exact Below.refl _ _ | refine bl_drewN ?_ _ | refine bl_drew ?_ | refine bl_alloc ?_ _)))
    have S8 : Hid (GR.Blk W8 w7.heap.size 25 #[.slice A a.length c, .slice C l.length d]) := Lib.hid (by rw [hW8]; exact GR.Blk.new _ _ _)
    clear hW8
    have B8 := Lib.hid (bl_then B7.out L8.out)
    have C8 := Lib.hid (C7.out.below L8.out C7.out.lt)
    have R8 := Lib.hid (R7.out.below L8.out R7.out.lt)
    have D8 := Lib.hid (D7.out.below L8.out)
    have O8 := Lib.hid (O7.out.below L8.out)
    have hrs : w.heap.size + 1 ≠ w7.heap.size := Nat.ne_of_lt R7.out.lt
    refine (rerr_any W1.heap.size k _ _ D8.out).mono ?_
    rintro e w_ ⟨rfl, rfl⟩
    have r0 : W8.cell? ⟨w.heap.size + 1, 0, none⟩ = some (.string ⟨#[]⟩) := R8.out.cell 0
    have r1 : W8.cell? ⟨w.heap.size + 1, 1, none⟩ = some (.slice none 0 0) := R8.out.cell 1
    have r2 : W8.cell? ⟨w.heap.size + 1, 2, none⟩ = some (.slice none 0 0) := R8.out.cell 2
    have f0 := R8.out.frozen 0
    have f1 := R8.out.frozen 1
    have f2 := R8.out.frozen 2
    go_wp2
    exact bodyPost_ret (v := .tuple #[.agg #[.string ⟨#[]⟩, .slice none 0 0, .slice none 0 0], .int .i64 4]) (by simp [results, Try.results22, go_sem, r0, r1, r2, f0, f1, f2]) rfl ⟨_, _, by rw [HV.out.2.2.2, HV.out.1], by rw [HV.out.2.1, HV.out.2.2.1]; exact ⟨GR.Own.nil _ _ _, GR.Own.nil _ _ _⟩, by
      repeat (first | exact B8.out | refine Below.setCell ?_ (by show w.heap.size ≤ w.heap.size + 1; omega) _)⟩
  · have hk2 : 2 ≤ k.size := by omega
    have HUB : Hid (unpB k v = (decB v.data.toList && decide (packE (kd k) a l = 0) && decide (packK (kd k) = k))) := Lib.hid (by rw [unpB, HA.out, HL.out, decide_eq_true hk2, Bool.true_and])
    have HUK := Lib.hid (unp_key hk2)
    have hlen : k.data.toList.length = k.size := rfl
    have hr : rdR k.data.toList 2 ⟨0, 0⟩ = (k.data.toList.take 2, ⟨2, 0⟩) := by rw [rdR, if_pos rfl, if_neg (by show ¬ k.size - 0 < 2; omega)]; rfl
    rw [hr] at D3 ⊢
    obtain ⟨N, hN⟩ : ∃ N, N = n2 (k.data.toList.take 2) := ⟨_, rfl⟩
    rw [← hN]
    have HN := Lib.hid hN
    clear hr hN h1
    go_wp2_with fail
    refine (rleft_any W1.heap.size k _ _ D3.out hk).mono ?_
    rintro e w4 ⟨rfl, hd⟩
    have L4 := Lib.hid (hd.below w3.heap.size)
    clear hd
    go_wp2_with fail
    refine (rraw_any W1.heap.size k _ _ _ (D3.out.below L4.out) hk (by omega)).mono ?_
    rintro e w5 ⟨rfl, h5, g5⟩
    have hr5 : rdR k.data.toList (k.size - 2) ⟨2, 0⟩ = ((k.data.toList.drop 2), ⟨2 + (k.size - 2), 0⟩) := by
      rw [rdR, if_pos rfl, if_neg (by show ¬ k.size - 2 < k.size - 2; omega)]
      congr 1
      exact List.take_of_length_le (by rw [List.length_drop, hlen]; exact Nat.le_refl _)
    have D5 : Hid (Rdr w5 W1.heap.size k ⟨2 + (k.size - 2), 0⟩) := Lib.hid (by have := h5; rw [hr5] at this; exact this)
    have B5 := Lib.hid ((bl_then B3.out L4.out).trans ((chg_g g5).below (bl_then B3.out L4.out).size (fun i e => by subst e; omega)))
    have C5 := Lib.hid ((C3.out.below L4.out C3.out.lt).grown g5 (fun e => by injection e with e; omega))
    have R5 := Lib.hid ((R3.out.below L4.out R3.out.lt).grown g5 (fun e => by injection e with e; omega))
    have hkd : (⟨(k.data.toList.drop 2).toArray⟩ : ByteArray) = kd k := by
      apply ByteArray.ext
      apply Array.toList_inj.1
      rw [kdL]
    rw [hr5]
    simp only
    rw [hkd]
    obtain ⟨K, hK⟩ : ∃ K, K = kd k := ⟨_, rfl⟩
    rw [← hK]
    have HK := Lib.hid hK
    clear h5 g5 hr5 hlen hkd hK
    by_cases hky : keyB K = true
    · have HKY := Lib.hid hky
      obtain ⟨P, hP⟩ : ∃ P, P = placeN K := ⟨_, rfl⟩
      have hlt : P < 4096 := by rw [hP]; exact (placeN_lt K).1
      have hPI : placeI K = (P : Int) := by rw [hP]; exact (placeN_lt K).2.symm
      have HPN := Lib.hid hP
      have HPI := Lib.hid hPI
      clear hP hPI hky
      go_wp2_with fail
      refine (place_yes K HKY.out _).mono ?_
      rintro e w6 ⟨rfl, hb⟩
      rw [HPI.out]
      have D6 := Lib.hid (D5.out.below hb)
      have B6 := Lib.hid (bl_then B5.out hb)
      have C6 := Lib.hid (C5.out.below hb C5.out.lt)
      have R6 := Lib.hid (R5.out.below hb R5.out.lt)
      clear hb
      have c1 : w6.cell? ⟨w.heap.size, 1, none⟩ = some (.string v) := C6.out.cell 1
      go_wp2_with fail
      clear c1
      refine (decode_any v _ hv).mono ?_
      rintro e w7 ⟨v1, v2, rfl, ho, hb⟩
      rw [HA.out, HL.out] at ho
      obtain ⟨A, n, c, rfl⟩ := own_slice ho.d ja
      obtain ⟨C, m, d, rfl⟩ := own_slice ho.s jl
      obtain rfl : n = a.length := own_n' ho.d
      obtain rfl : m = l.length := own_n' ho.s
      have O7 := Lib.hid (ho.base B6.out.size)
      have B7 := Lib.hid (bl_then B6.out hb)
      have C7 := Lib.hid (C6.out.below hb C6.out.lt)
      have R7 := Lib.hid (R6.out.below hb R6.out.lt)
      have D7 := Lib.hid (D6.out.below hb)
      clear ho hb
      obtain ⟨z, hz⟩ : ∃ z, decE v.data.toList = z := ⟨_, rfl⟩
      rw [hz]
      have HZ := Lib.hid hz
      clear hz
      go_wp2_with fail
      obtain ⟨W8, hW8⟩ : ∃ W8 : World, W8 = w7.alloc (.cells #[.slice A a.length c, .slice C l.length d] 25) := ⟨_, rfl⟩
      rw [← hW8]
      have L8 : Hid (Below w7.heap.size w7 W8) := Lib.hid (by rw [hW8]; exact (by repeat (first | exact Below.refl _ _ | refine bl_drewN ?_ _ | refine bl_drew ?_ | refine bl_alloc ?_ _)))
      have S8 : Hid (GR.Blk W8 w7.heap.size 25 #[.slice A a.length c, .slice C l.length d]) := Lib.hid (by rw [hW8]; exact GR.Blk.new _ _ _)
      clear hW8
      have B8 := Lib.hid (bl_then B7.out L8.out)
      have C8 := Lib.hid (C7.out.below L8.out C7.out.lt)
      have R8 := Lib.hid (R7.out.below L8.out R7.out.lt)
      have D8 := Lib.hid (D7.out.below L8.out)
      have O8 := Lib.hid (O7.out.below L8.out)
      have hrs : w.heap.size + 1 ≠ w7.heap.size := Nat.ne_of_lt R7.out.lt
      refine (rerr_any W1.heap.size k _ _ D8.out).mono ?_
      rintro e w_ ⟨rfl, rfl⟩
      have r0 : W8.cell? ⟨w.heap.size + 1, 0, none⟩ = some (.string ⟨#[]⟩) := R8.out.cell 0
      have r1 : W8.cell? ⟨w.heap.size + 1, 1, none⟩ = some (.slice none 0 0) := R8.out.cell 1
      have r2 : W8.cell? ⟨w.heap.size + 1, 2, none⟩ = some (.slice none 0 0) := R8.out.cell 2
      have f0 := R8.out.frozen 0
      have f1 := R8.out.frozen 1
      have f2 := R8.out.frozen 2
      by_cases h0 : z = 0
      · have hB : decB v.data.toList = true := by
          rcases decE_cases v.data.toList with ⟨h, _⟩ | ⟨_, h⟩
          · exact h
          · rw [HZ.out, h0] at h; omega
        have HB := Lib.hid hB
        have HEN := Lib.hid (show staB a l = true ∧ encS a l = v.data.toList by have := dec_enc v.data.toList hB; rw [HA.out, HL.out] at this; exact this)
        subst h0
        clear hB
        have e9 : IntKind.u64.wrap (P : Int) = (P : Int) := IntWalk.u64_in _ (by omega)
        by_cases hPN : P = N
        · have e1 : ((P : Int) != (N : Int)) = false := by simp [hPN]
          have e2 : decide ((P : Int) = (N : Int)) = true := by simp [hPN]
          have e3 : ((P : Int) == (N : Int)) = true := by simp [hPN]
          have HPNK := Lib.hid (show packK (kd k) = k from HUK.out.2 (by rw [← HN.out, ← hPN, HPN.out, HK.out]))
          clear hPN
          have m0 : W8.cell? ⟨w7.heap.size, 0, none⟩ = some (.slice A a.length c) := S8.out.cell 0
          have m1 : W8.cell? ⟨w7.heap.size, 1, none⟩ = some (.slice C l.length d) := S8.out.cell 1
          go_wp2_with fail
          clear m0 m1 r0 r1 r2 f0 f1 f2
          refine (absent_any A C a.length c l.length d _).mono ?_
          rintro e w9 ⟨rfl, hb⟩
          have B9 := Lib.hid (bl_then B8.out hb)
          have C9 := Lib.hid (C8.out.below hb C8.out.lt)
          have R9 := Lib.hid (R8.out.below hb R8.out.lt)
          have S9 := Lib.hid (S8.out.below hb S8.out.lt)
          have O9 := Lib.hid (O8.out.below hb)
          clear hb
          have r0 : w9.cell? ⟨w.heap.size + 1, 0, none⟩ = some (.string ⟨#[]⟩) := R9.out.cell 0
          have r1 : w9.cell? ⟨w.heap.size + 1, 1, none⟩ = some (.slice none 0 0) := R9.out.cell 1
          have r2 : w9.cell? ⟨w.heap.size + 1, 2, none⟩ = some (.slice none 0 0) := R9.out.cell 2
          have f0 := R9.out.frozen 0
          have f1 := R9.out.frozen 1
          have f2 := R9.out.frozen 2
          have c1 : w9.cell? ⟨w.heap.size, 1, none⟩ = some (.string v) := C9.out.cell 1
          have m0 : w9.cell? ⟨w7.heap.size, 0, none⟩ = some (.slice A a.length c) := S9.out.cell 0
          have m1 : w9.cell? ⟨w7.heap.size, 1, none⟩ = some (.slice C l.length d) := S9.out.cell 1
          by_cases ha0 : a.length = 0
          · have HV := Lib.hid (unp_no (show unpB k v = false by rw [HUB.out, decide_eq_false (pack_abs HEN.out.1 ha0)]; simp))
            rw [decide_eq_true ha0]
            clear ha0
            go_wp2
            exact bodyPost_ret (v := .tuple #[.agg #[.string ⟨#[]⟩, .slice none 0 0, .slice none 0 0], .int .i64 4]) (by simp [results, Try.results22, go_sem, r0, r1, r2, f0, f1, f2]) rfl ⟨_, _, by rw [HV.out.2.2.2, HV.out.1], by rw [HV.out.2.1, HV.out.2.2.1]; exact ⟨GR.Own.nil _ _ _, GR.Own.nil _ _ _⟩, by
              repeat (first | exact B9.out | refine Below.setCell ?_ (by show w.heap.size ≤ w.heap.size + 1; omega) _)⟩
          · rw [decide_eq_false ha0]
            have HA0 := Lib.hid ha0
            clear ha0
            have hvl : (encS a l).length = v.size := by rw [HEN.out.2]; rfl
            by_cases hvs : 280 < v.size
            · have HV := Lib.hid (unp_no (show unpB k v = false by rw [HUB.out, decide_eq_false (pack_big (by rw [hvl]; exact hvs))]; simp))
              have e4 : decide ((280 : Int) < (v.size : Int)) = true := by simp; omega
              have e5 : decide (280 < v.size) = true := by simp; omega
              clear hvs hvl
              go_wp2
              exact bodyPost_ret (v := .tuple #[.agg #[.string ⟨#[]⟩, .slice none 0 0, .slice none 0 0], .int .i64 4]) (by simp [results, Try.results22, go_sem, r0, r1, r2, f0, f1, f2]) rfl ⟨_, _, by rw [HV.out.2.2.2, HV.out.1], by rw [HV.out.2.1, HV.out.2.2.1]; exact ⟨GR.Own.nil _ _ _, GR.Own.nil _ _ _⟩, by
                repeat (first | exact B9.out | refine Below.setCell ?_ (by show w.heap.size ≤ w.heap.size + 1; omega) _)⟩
            · have HV := Lib.hid (unp_yes (show unpB k v = true by rw [HUB.out, HB.out, HPNK.out, ← HK.out, pack_yes HKY.out HEN.out.1 (by rw [hvl]; exact hvs) HA0.out]; simp))
              have e4 : decide ((280 : Int) < (v.size : Int)) = false := by simp; omega
              have e5 : decide (280 < v.size) = false := by simp; omega
              have OF : Hid (OwnS (((w9.setCell ⟨w.heap.size + 1, 0, none⟩ (.string K)).setCell ⟨w.heap.size + 1, 1, none⟩ (.slice A a.length c)).setCell ⟨w.heap.size + 1, 2, none⟩ (.slice C l.length d)) w.heap.size (.slice A a.length c) (.slice C l.length d) a l) := Lib.hid ⟨own_farI (own_farI (own_farI O9.out.d R9.out 0 _ (by decide)) (R9.out.set_ 0 _) 1 _ (by decide)) ((R9.out.set_ 0 _).set_ 1 _) 2 _ (by decide), own_farI (own_farI (own_farI O9.out.s R9.out 0 _ (by decide)) (R9.out.set_ 0 _) 1 _ (by decide)) ((R9.out.set_ 0 _).set_ 1 _) 2 _ (by decide)⟩
              clear hvs hvl
              go_wp2
              exact bodyPost_ret (v := .tuple #[.agg #[.string K, .slice A a.length c, .slice C l.length d], .int .i64 0]) (by simp [results, Try.results22, go_sem, r0, r1, r2, f0, f1, f2, hrs, m0, m1]) rfl ⟨_, _, by rw [HV.out.2.2.2, HV.out.1, HK.out], by rw [HV.out.2.1, HV.out.2.2.1, HA.out, HL.out]; exact OF.out, by
                repeat (first | exact B9.out | refine Below.setCell ?_ (by show w.heap.size ≤ w.heap.size + 1; omega) _)⟩
        · have HV := Lib.hid (unp_no (show unpB k v = false by rw [HUB.out, show decide (packK (kd k) = k) = false from decide_eq_false (fun e => hPN (by rw [HPN.out, HN.out, HK.out]; exact (HUK.out.1 e).symm))]; simp))
          have e1 : ((P : Int) != (N : Int)) = true := by simp; omega
          have e2 : decide ((P : Int) = (N : Int)) = false := by simp; omega
          have e3 : ((P : Int) == (N : Int)) = false := by simp; omega
          clear hPN
          go_wp2
          exact bodyPost_ret (v := .tuple #[.agg #[.string ⟨#[]⟩, .slice none 0 0, .slice none 0 0], .int .i64 4]) (by simp [results, Try.results22, go_sem, r0, r1, r2, f0, f1, f2]) rfl ⟨_, _, by rw [HV.out.2.2.2, HV.out.1], by rw [HV.out.2.1, HV.out.2.2.1]; exact ⟨GR.Own.nil _ _ _, GR.Own.nil _ _ _⟩, by
            repeat (first | exact B8.out | refine Below.setCell ?_ (by show w.heap.size ≤ w.heap.size + 1; omega) _)⟩
      · have HV := Lib.hid (unp_no (unp_dec (k := k) (show decB v.data.toList = false by
          rcases decE_cases v.data.toList with ⟨_, h⟩ | ⟨h, _⟩
          · rw [HZ.out] at h; exact absurd h h0
          · exact h)))
        have e1 : (z != 0) = true := by simpa using h0
        have e2 : decide (z = 0) = false := by simpa using h0
        clear h0
        go_wp2
        exact bodyPost_ret (v := .tuple #[.agg #[.string ⟨#[]⟩, .slice none 0 0, .slice none 0 0], .int .i64 4]) (by simp [results, Try.results22, go_sem, r0, r1, r2, f0, f1, f2]) rfl ⟨_, _, by rw [HV.out.2.2.2, HV.out.1], by rw [HV.out.2.1, HV.out.2.2.1]; exact ⟨GR.Own.nil _ _ _, GR.Own.nil _ _ _⟩, by
          repeat (first | exact B8.out | refine Below.setCell ?_ (by show w.heap.size ≤ w.heap.size + 1; omega) _)⟩
    · have hky' : keyB K = false := by simpa using hky
      have HKY := Lib.hid hky'
      have HV := Lib.hid (unp_no (show unpB k v = false by rw [HUB.out, ← HK.out, decide_eq_false (pack_no hky')]; simp))
      clear hky hky'
      go_wp2_with fail
      refine (place_no K HKY.out _).mono ?_
      rintro e w6 ⟨rfl, rfl⟩
      have D6 := D5
      have B6 := B5
      have C6 := C5
      have R6 := R5
      have c1 : w5.cell? ⟨w.heap.size, 1, none⟩ = some (.string v) := C6.out.cell 1
      go_wp2_with fail
      clear c1
      refine (decode_any v _ hv).mono ?_
      rintro e w7 ⟨v1, v2, rfl, ho, hb⟩
      rw [HA.out, HL.out] at ho
      obtain ⟨A, n, c, rfl⟩ := own_slice ho.d ja
      obtain ⟨C, m, d, rfl⟩ := own_slice ho.s jl
      obtain rfl : n = a.length := own_n' ho.d
      obtain rfl : m = l.length := own_n' ho.s
      have O7 := Lib.hid (ho.base B6.out.size)
      have B7 := Lib.hid (bl_then B6.out hb)
      have C7 := Lib.hid (C6.out.below hb C6.out.lt)
      have R7 := Lib.hid (R6.out.below hb R6.out.lt)
      have D7 := Lib.hid (D6.out.below hb)
      clear ho hb
      obtain ⟨z, hz⟩ : ∃ z, decE v.data.toList = z := ⟨_, rfl⟩
      rw [hz]
      have HZ := Lib.hid hz
      clear hz
      go_wp2_with fail
      obtain ⟨W8, hW8⟩ : ∃ W8 : World, W8 = w7.alloc (.cells #[.slice A a.length c, .slice C l.length d] 25) := ⟨_, rfl⟩
      rw [← hW8]
      have L8 : Hid (Below w7.heap.size w7 W8) := Lib.hid (by rw [hW8]; exact (by repeat (first | exact Below.refl _ _ | refine bl_drewN ?_ _ | refine bl_drew ?_ | refine bl_alloc ?_ _)))
      have S8 : Hid (GR.Blk W8 w7.heap.size 25 #[.slice A a.length c, .slice C l.length d]) := Lib.hid (by rw [hW8]; exact GR.Blk.new _ _ _)
      clear hW8
      have B8 := Lib.hid (bl_then B7.out L8.out)
      have C8 := Lib.hid (C7.out.below L8.out C7.out.lt)
      have R8 := Lib.hid (R7.out.below L8.out R7.out.lt)
      have D8 := Lib.hid (D7.out.below L8.out)
      have O8 := Lib.hid (O7.out.below L8.out)
      have hrs : w.heap.size + 1 ≠ w7.heap.size := Nat.ne_of_lt R7.out.lt
      refine (rerr_any W1.heap.size k _ _ D8.out).mono ?_
      rintro e w_ ⟨rfl, rfl⟩
      have r0 : W8.cell? ⟨w.heap.size + 1, 0, none⟩ = some (.string ⟨#[]⟩) := R8.out.cell 0
      have r1 : W8.cell? ⟨w.heap.size + 1, 1, none⟩ = some (.slice none 0 0) := R8.out.cell 1
      have r2 : W8.cell? ⟨w.heap.size + 1, 2, none⟩ = some (.slice none 0 0) := R8.out.cell 2
      have f0 := R8.out.frozen 0
      have f1 := R8.out.frozen 1
      have f2 := R8.out.frozen 2
      go_wp2
      exact bodyPost_ret (v := .tuple #[.agg #[.string ⟨#[]⟩, .slice none 0 0, .slice none 0 0], .int .i64 4]) (by simp [results, Try.results22, go_sem, r0, r1, r2, f0, f1, f2]) rfl ⟨_, _, by rw [HV.out.2.2.2, HV.out.1], by rw [HV.out.2.1, HV.out.2.2.1]; exact ⟨GR.Own.nil _ _ _, GR.Own.nil _ _ _⟩, by
        repeat (first | exact B8.out | refine Below.setCell ?_ (by show w.heap.size ≤ w.heap.size + 1; omega) _)⟩
end Go.Proofs.Ytljfigikkajlnaa
