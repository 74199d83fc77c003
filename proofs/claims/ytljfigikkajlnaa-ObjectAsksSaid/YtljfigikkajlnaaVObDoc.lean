/- DERIVED. The document's Place, Check, Absent, Pack of an object. -/
import Derived.Test.YtljfigikkajlnaaVDvRefEnc
import Derived.Test.YtljfigikkajlnaaVm5
import Derived.Test.YtljfigikkajlnaaVm4
namespace Go.Proofs.Ytljfigikkajlnaa
open Go.RowKit Go.Lib
set_option linter.unusedVariables false
set_option linter.unusedSimpArgs false
attribute [local irreducible] arrW arrB
theorem refKey_any (s : ByteArray) (w : World) :
    Calls Try.prog 48 #[.string s] w fun e w' => e = .returned (.int .i64 (keyE s)) ∧ w = w' := by
  by_cases h1 : s.size < 1
  · have hk : keyE s = 130 := keyE_neg (by simp [keyB]; omega)
    have d1 : decide ((s.size : Int) < 1) = true := by simp; omega
    rw [hk]; clear hk
    go_enter Try.func48, Try.ntmps48
    go_wp2
    all_goals (go_ret; exact ⟨rfl, rfl⟩)
  · have d1 : decide ((s.size : Int) < 1) = false := by simp; omega
    by_cases h2 : s.size ≤ 32
    · have hk : keyE s = 0 := keyE_pos (by simp [keyB]; omega)
      rw [hk]; clear hk
      go_enter Try.func48, Try.ntmps48
      go_wp2
      all_goals (go_ret; exact ⟨rfl, rfl⟩)
    · have hk : keyE s = 130 := keyE_neg (by simp [keyB]; omega)
      rw [hk]; clear hk
      go_enter Try.func48, Try.ntmps48
      go_wp2
      all_goals (go_ret; exact ⟨rfl, rfl⟩)
section
attribute [local irreducible] wpList Code.wp
set_option maxRecDepth 100000 in
set_option maxHeartbeats 3200000 in
theorem dplace_yes (s : ByteArray) (h : keyB s = true) (w : World) : Calls Try.prog 47 #[.string s] w fun e w' => e = .returned (.tuple #[.int .i64 (placeI s), .int .i64 0]) ∧ Below w.heap.size w w' := by
  have hk := (keyB_iff _).1 h
  have ks := hk.2
  have k1 := hk.1
  have hcat : ∀ W, (Op.stringOp .add ⟨#[75]⟩ s).run Try.prog W = .ok (.string (⟨#[75]⟩ ++ s)) W := fun W => run_string_add_sum W _ _ (by show 1 + s.size ≤ _; omega)
  have hcs : ((⟨#[75]⟩ : ByteArray) ++ s).size ≤ 70368744177664 := by rw [ByteArray.size_append]; show 1 + s.size ≤ _; omega
  have HCS := Lib.hid hcs
  have HK := Lib.hid (keyE_pos h)
  clear hk ks k1 hcs
  go_enter Try.func47, Try.ntmps47
  go_wp2_with (first
    | (go_at_call 48; refine (refKey_any s _).mono ?_; rintro e w1 ⟨rfl, rfl⟩; rw [HK.out])
    | (go_at_call 98; refine (refOf_any _ HCS.out w).mono ?_; rintro e W1 ⟨rfl, L_⟩; have L1 := Lib.hid L_; clear L_)
    | (refine alloc_arr (w := W1) rfl 91 rfl _ _ z32 ?_; intro W2 B_ L_ S_; have B2 := Lib.hid B_; have L2 := Lib.hid L_; have S2 := Lib.hid S_; clear B_ L_ S_)
    | (refine store_arr (w := W2) rfl 91 _ _ rfl W1.heap.size (arrB 32 (shaB (placeL s))) rfl rfl _ _ B2.out (by rw [arrB_size]; exact s32) (by rw [arrB_size, arrB_size]) (arrB_one _ _) ?_; intro W3 B_ G_ S_; have B3 := Lib.hid B_; have G3 := Lib.hid G_; clear B_ G_ S_; have c0 := (B3.out.cell 0).trans (arrB_get 32 (shaB (placeL s)) (by omega)); have c1 := (B3.out.cell 1).trans (arrB_get 32 (shaB (placeL s)) (by omega))))
  go_ret2
  refine ⟨?_, bl_of_grown (bl_then L1.out L2.out) G3.out (zero_lt_of (by have := L1.out.size; omega) rfl)⟩
  show Ending.returned (.tuple #[.int .i64 _, _]) = _
  rw [Int.mul_comm 16, place_sum]
  rfl
end
theorem dplace_no (s : ByteArray) (h : keyB s = false) (w : World) : Calls Try.prog 47 #[.string s] w fun e w' => e = .returned (.tuple #[.int .i64 0, .int .i64 130]) ∧ w = w' := by
  have HK := Lib.hid (keyE_neg h)
  go_enter Try.func47, Try.ntmps47
  go_wp2_with (go_at_call 48; refine (refKey_any s _).mono ?_; rintro e w1 ⟨rfl, rfl⟩; rw [HK.out])
  go_ret2
  exact ⟨rfl, rfl⟩
def chkE (key : ByteArray) (a : List Dot) (l : List Sib) : Int := if keyB key = false then 130 else if staB a l = false then 110 else if 280 < (encS a l).length then 82 else 0
/-- The numbers of a state's dots, within their kinds. -/
def StR (a : List Dot) (l : List Sib) : Prop := (∀ d ∈ a, 0 ≤ d.n ∧ 0 ≤ d.a ∧ d.a ≤ 4294967295) ∧ ∀ x ∈ l, 0 ≤ x.d.n ∧ 0 ≤ x.d.a ∧ x.d.a ≤ 4294967295
theorem refEncO_any (A C : Option Addr) (n c m d : Nat) (a : List Dot) (l : List Sib) (t : ByteArray) (x : Int) (w : World) (ha : GR.Rd dotK w A a) (hl : GR.Rd sibK w C l) (hn : n = a.length) (hm : m = l.length) (hr : StR a l) (ht : encT a l = t) (hx : encE a l = x) :
    Calls Try.prog 67 #[.agg #[.slice A n c, .slice C m d]] w fun e w' => e = .returned (.tuple #[.string t, .int .i64 x]) ∧ Below w.heap.size w w' := by
  subst hn hm ht hx
  exact refEncode_any A C c d a l w ha hl (fun d hd => (hr.1 d hd).1) (fun x hx => (hr.2 x hx).1) (fun d hd => (hr.1 d hd).2) (fun x hx => (hr.2 x hx).2)
theorem encT_yes {a : List Dot} {l : List Sib} (h : staB a l = true) : encT a l = ⟨(encS a l).toArray⟩ ∧ encE a l = 0 := by rw [encT, encE, if_pos h, if_pos h]; exact ⟨rfl, rfl⟩
theorem encT_no {a : List Dot} {l : List Sib} (h : staB a l = false) : encT a l = ⟨#[]⟩ ∧ encE a l = 110 := by rw [encT, encE, h]; exact ⟨rfl, rfl⟩
theorem szL (L : List UInt8) : (⟨L.toArray⟩ : ByteArray).size = L.length := by simp [ByteArray.size]
set_option maxRecDepth 100000 in
set_option maxHeartbeats 6400000 in
theorem dcheck_any (key : ByteArray) (A C : Option Addr) (n c m d : Nat) (a : List Dot) (l : List Sib) (w : World) (ha : GR.Rd dotK w A a) (hl : GR.Rd sibK w C l) (hn : n = a.length) (hm : m = l.length) (hr : StR a l) :
    Calls Try.prog 32 #[.agg #[.string key, .slice A n c, .slice C m d]] w fun e w' => e = .returned (.int .i64 (chkE key a l)) ∧ Below w.heap.size w w' := by
  have HA := Lib.hid ha
  have HL := Lib.hid hl
  have HR := Lib.hid hr
  have HN := Lib.hid hn
  have HM := Lib.hid hm
  clear ha hl hr hn hm
  by_cases h1 : keyB key = true
  · have HK := Lib.hid (keyE_pos h1)
    by_cases h2 : staB a l = true
    · obtain ⟨t1, t2⟩ := encT_yes h2
      have T1 := Lib.hid t1
      have T2 := Lib.hid t2
      have hc : chkE key a l = if 280 < (encS a l).length then 82 else 0 := by rw [chkE, h1, h2]; rfl
      have hz := szL (encS a l)
      obtain ⟨k, hk⟩ : ∃ k, k = (encS a l).length := ⟨_, rfl⟩
      rw [← hk] at hc hz
      have HC := Lib.hid hc
      clear t1 t2 hk hc h1 h2
      by_cases h3 : 280 < k
      · have d1 : decide ((280 : Int) < (k : Int)) = true := by simp; omega
        have d2 : decide (280 < k) = true := by simp; omega
        have HV := Lib.hid (show chkE key a l = 82 by rw [HC.out, if_pos h3])
        clear h3
        go_enter Try.func32, Try.ntmps32
        go_wp2_with fail
        refine (refKey_any key _).mono ?_
        rintro e w1 ⟨rfl, rfl⟩
        rw [HK.out]
        go_wp2_with fail
        refine (refEncO_any A C n c m d a l _ _ _ (HA.out.alloc _) (HL.out.alloc _) HN.out HM.out HR.out T1.out T2.out).mono ?_
        rintro e w2 ⟨rfl, hb⟩
        have B2 := Lib.hid (bl_then ((Below.refl _ _).alloc (Nat.le_refl _) _) hb)
        clear hb
        go_wp2
        go_ret
        exact ⟨by rw [HV.out]; rfl, B2.out⟩
      · have d1 : decide ((280 : Int) < (k : Int)) = false := by simp; omega
        have d2 : decide (280 < k) = false := by simp; omega
        have HV := Lib.hid (show chkE key a l = 0 by rw [HC.out, if_neg h3])
        clear h3
        go_enter Try.func32, Try.ntmps32
        go_wp2_with fail
        refine (refKey_any key _).mono ?_
        rintro e w1 ⟨rfl, rfl⟩
        rw [HK.out]
        go_wp2_with fail
        refine (refEncO_any A C n c m d a l _ _ _ (HA.out.alloc _) (HL.out.alloc _) HN.out HM.out HR.out T1.out T2.out).mono ?_
        rintro e w2 ⟨rfl, hb⟩
        have B2 := Lib.hid (bl_then ((Below.refl _ _).alloc (Nat.le_refl _) _) hb)
        clear hb
        go_wp2
        go_ret
        exact ⟨by rw [HV.out]; rfl, B2.out⟩
    · have h2' : staB a l = false := by simpa using h2
      obtain ⟨t1, t2⟩ := encT_no h2'
      have T1 := Lib.hid t1
      have T2 := Lib.hid t2
      have HV := Lib.hid (show chkE key a l = 110 by rw [chkE, h1, h2']; rfl)
      clear t1 t2 h1 h2 h2'
      go_enter Try.func32, Try.ntmps32
      go_wp2_with fail
      refine (refKey_any key _).mono ?_
      rintro e w1 ⟨rfl, rfl⟩
      rw [HK.out]
      go_wp2_with fail
      refine (refEncO_any A C n c m d a l _ _ _ (HA.out.alloc _) (HL.out.alloc _) HN.out HM.out HR.out T1.out T2.out).mono ?_
      rintro e w2 ⟨rfl, hb⟩
      have B2 := Lib.hid (bl_then ((Below.refl _ _).alloc (Nat.le_refl _) _) hb)
      clear hb
      go_wp2
      go_ret
      exact ⟨by rw [HV.out]; rfl, B2.out⟩
  · have h1' : keyB key = false := by simpa using h1
    have HK := Lib.hid (keyE_neg h1')
    have HV := Lib.hid (show chkE key a l = 130 by rw [chkE, h1']; rfl)
    clear h1 h1'
    go_enter Try.func32, Try.ntmps32
    go_wp2_with fail
    refine (refKey_any key _).mono ?_
    rintro e w1 ⟨rfl, rfl⟩
    rw [HK.out]
    go_wp2
    go_ret
    exact ⟨by rw [HV.out]; rfl, (Below.refl _ _).alloc (Nat.le_refl _) _⟩
def absB (a : List Dot) (l : List Sib) : Bool := decide (a.length = 0) && decide (l.length = 0)
theorem dabsent_any (key : ByteArray) (A C : Option Addr) (n c m d : Nat) (a : List Dot) (l : List Sib) (w : World) (hn : n = a.length) (hm : m = l.length) :
    Calls Try.prog 88 #[.agg #[.string key, .slice A n c, .slice C m d]] w fun e w' => e = .returned (.bool (absB a l)) ∧ Below w.heap.size w w' := by
  have HV := Lib.hid (show absB a l = (decide (n = 0) && decide (m = 0)) by rw [absB, hn, hm])
  clear hn hm
  by_cases h1 : n = 0
  · subst h1
    by_cases h2 : m = 0
    · subst h2
      go_enter Try.func88, Try.ntmps88
      go_wp2
      go_ret
      exact ⟨by rw [HV.out]; rfl, (Below.refl _ _).alloc (Nat.le_refl _) _⟩
    · have e1 : ((m : Int) == 0) = false := by simp; omega
      have e2 : decide ((m : Int) = 0) = false := by simp; omega
      have e3 : decide (m = 0) = false := by simp; omega
      have e4 : (m == 0) = false := by simp; omega
      go_enter Try.func88, Try.ntmps88
      go_wp2
      go_ret
      exact ⟨by rw [HV.out, e3]; rfl, (Below.refl _ _).alloc (Nat.le_refl _) _⟩
  · have e1 : ((n : Int) == 0) = false := by simp; omega
    have e2 : decide ((n : Int) = 0) = false := by simp; omega
    have e3 : decide (n = 0) = false := by simp; omega
    have e4 : (n == 0) = false := by simp; omega
    go_enter Try.func88, Try.ntmps88
    go_wp2
    go_ret
    exact ⟨by rw [HV.out, e3]; rfl, (Below.refl _ _).alloc (Nat.le_refl _) _⟩
end Go.Proofs.Ytljfigikkajlnaa
