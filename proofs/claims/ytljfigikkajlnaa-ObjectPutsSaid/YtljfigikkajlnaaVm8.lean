/- DERIVED. The document's Place, Check, Absent, Pack of an object. The document's Pack of an object: the plain cell; the walk. The document's Take of a vector and of a state. The program's Reader: two bytes as a number, what is left, so many bytes. The object that a cell is: plain; the document's Unpack. The program's bytes, Check, Pack of an object. -/
import Derived.Test.YtljfigikkajlnaaVm2
import Derived.Test.YtljfigikkajlnaaVm1
import Derived.Test.YtljfigikkajlnaaVm3
import Derived.Test.YtljfigikkajlnaaVm7
import Derived.Test.YtljfigikkajlnaaVDvRefEnc
import Derived.Test.YtljfigikkajlnaaVm4
import Derived.BigRegion
import Derived.Laws.Cover3
import Derived.WalkMore
import Derived.Lib.IndexBytes
import Derived.Deep.RegionHeld3
namespace Go.Proofs.Ytljfigikkajlnaa
open Go.RowKit Go.Lib
set_option linter.unusedVariables false
set_option linter.unusedSimpArgs false
attribute [local irreducible] arrW arrB
theorem refKey_any (s : ByteArray) (w : World) :
    Calls Try.prog 48 #[.string s] w fun e w' => e = .returned (.int .i64 (keyE s)) ∧ w = w' := by
  by_cases h1 : s.size < 1
  · have hk : keyE s = 130 := keyE_neg (by simp [keyB]; omega)
    have d1 : decide ((s.size : Int) < 1) = true := by simp; omega
    rw [hk]; clear hk
    go_enter Try.func48, Try.ntmps48
    go_wp2
    all_goals (go_ret; exact ⟨rfl, rfl⟩)
  · have d1 : decide ((s.size : Int) < 1) = false := by simp; omega
    by_cases h2 : s.size ≤ 32
    · have hk : keyE s = 0 := keyE_pos (by simp [keyB]; omega)
      rw [hk]; clear hk
      go_enter Try.func48, Try.ntmps48
      go_wp2
      all_goals (go_ret; exact ⟨rfl, rfl⟩)
    · have hk : keyE s = 130 := keyE_neg (by simp [keyB]; omega)
      rw [hk]; clear hk
      go_enter Try.func48, Try.ntmps48
      go_wp2
      all_goals (go_ret; exact ⟨rfl, rfl⟩)
section
attribute [local irreducible] wpList Code.wp
end
def chkE (key : ByteArray) (a : List Dot) (l : List Sib) : Int := if keyB key = false then 130 else if staB a l = false then 110 else if 280 < (encS a l).length then 82 else 0
/-- The numbers of a state's dots, within their kinds. -/
def StR (a : List Dot) (l : List Sib) : Prop := (∀ d ∈ a, 0 ≤ d.n ∧ 0 ≤ d.a ∧ d.a ≤ 4294967295) ∧ ∀ x ∈ l, 0 ≤ x.d.n ∧ 0 ≤ x.d.a ∧ x.d.a ≤ 4294967295
theorem refEncO_any (A C : Option Addr) (n c m d : Nat) (a : List Dot) (l : List Sib) (t : ByteArray) (x : Int) (w : World) (ha : GR.Rd dotK w A a) (hl : GR.Rd sibK w C l) (hn : n = a.length) (hm : m = l.length) (hr : StR a l) (ht : encT a l = t) (hx : encE a l = x) :
    Calls Try.prog 67 #[.agg #[.slice A n c, .slice C m d]] w fun e w' => e = .returned (.tuple #[.string t, .int .i64 x]) ∧ Below w.heap.size w w' := by
  subst hn hm ht hx
  exact refEncode_any A C c d a l w ha hl (fun d hd => (hr.1 d hd).1) (fun x hx => (hr.2 x hx).1) (fun d hd => (hr.1 d hd).2) (fun x hx => (hr.2 x hx).2)
theorem encT_yes {a : List Dot} {l : List Sib} (h : staB a l = true) : encT a l = ⟨(encS a l).toArray⟩ ∧ encE a l = 0 := by rw [encT, encE, if_pos h, if_pos h]; exact ⟨rfl, rfl⟩
theorem encT_no {a : List Dot} {l : List Sib} (h : staB a l = false) : encT a l = ⟨#[]⟩ ∧ encE a l = 110 := by rw [encT, encE, h]; exact ⟨rfl, rfl⟩
theorem szL (L : List UInt8) : (⟨L.toArray⟩ : ByteArray).size = L.length := by simp [ByteArray.size]
set_option maxRecDepth 100000 in
set_option maxHeartbeats 6400000 in
theorem dcheck_any (key : ByteArray) (A C : Option Addr) (n c m d : Nat) (a : List Dot) (l : List Sib) (w : World) (ha : GR.Rd dotK w A a) (hl : GR.Rd sibK w C l) (hn : n = a.length) (hm : m = l.length) (hr : StR a l) :
    Calls Try.prog 32 #[.agg #[.string key, .slice A n c, .slice C m d]] w fun e w' => e = .returned (.int .i64 (chkE key a l)) ∧ Below w.heap.size w w' := by
  have HA := Lib.hid ha
  have HL := Lib.hid hl
  have HR := Lib.hid hr
  have HN := Lib.hid hn
  have HM := Lib.hid hm
  clear ha hl hr hn hm
  by_cases h1 : keyB key = true
  · have HK := Lib.hid (keyE_pos h1)
    by_cases h2 : staB a l = true
    · obtain ⟨t1, t2⟩ := encT_yes h2
      have T1 := Lib.hid t1
      have T2 := Lib.hid t2
      have hc : chkE key a l = if 280 < (encS a l).length then 82 else 0 := by rw [chkE, h1, h2]; rfl
      have hz := szL (encS a l)
      obtain ⟨k, hk⟩ : ∃ k, k = (encS a l).length := ⟨_, rfl⟩
      rw [← hk] at hc hz
      have HC := Lib.hid hc
      clear t1 t2 hk hc h1 h2
      by_cases h3 : 280 < k
      · have d1 : decide ((280 : Int) < (k : Int)) = true := by simp; omega
        have d2 : decide (280 < k) = true := by simp; omega
        have HV := Lib.hid (show chkE key a l = 82 by rw [HC.out, if_pos h3])
        clear h3
        go_enter Try.func32, Try.ntmps32
        go_wp2_with fail
        refine (refKey_any key _).mono ?_
        rintro e w1 ⟨rfl, rfl⟩
        rw [HK.out]
        go_wp2_with fail
        refine (refEncO_any A C n c m d a l _ _ _ (HA.out.alloc _) (HL.out.alloc _) HN.out HM.out HR.out T1.out T2.out).mono ?_
        rintro e w2 ⟨rfl, hb⟩
        have B2 := Lib.hid (bl_then ((Below.refl _ _).alloc (Nat.le_refl _) _) hb)
        clear hb
        go_wp2
        go_ret
        exact ⟨by rw [HV.out]; rfl, B2.out⟩
      · have d1 : decide ((280 : Int) < (k : Int)) = false := by simp; omega
        have d2 : decide (280 < k) = false := by simp; omega
        have HV := Lib.hid (show chkE key a l = 0 by rw [HC.out, if_neg h3])
        clear h3
        go_enter Try.func32, Try.ntmps32
        go_wp2_with fail
        refine (refKey_any key _).mono ?_
        rintro e w1 ⟨rfl, rfl⟩
        rw [HK.out]
        go_wp2_with fail
        refine (refEncO_any A C n c m d a l _ _ _ (HA.out.alloc _) (HL.out.alloc _) HN.out HM.out HR.out T1.out T2.out).mono ?_
        rintro e w2 ⟨rfl, hb⟩
        have B2 := Lib.hid (bl_then ((Below.refl _ _).alloc (Nat.le_refl _) _) hb)
        clear hb
        go_wp2
        go_ret
        exact ⟨by rw [HV.out]; rfl, B2.out⟩
    · have h2' : staB a l = false := by simpa using h2
      obtain ⟨t1, t2⟩ := encT_no h2'
      have T1 := Lib.hid t1
      have T2 := Lib.hid t2
      have HV := Lib.hid (show chkE key a l = 110 by rw [chkE, h1, h2']; rfl)
      clear t1 t2 h1 h2 h2'
      go_enter Try.func32, Try.ntmps32
      go_wp2_with fail
      refine (refKey_any key _).mono ?_
      rintro e w1 ⟨rfl, rfl⟩
      rw [HK.out]
      go_wp2_with fail
      refine (refEncO_any A C n c m d a l _ _ _ (HA.out.alloc _) (HL.out.alloc _) HN.out HM.out HR.out T1.out T2.out).mono ?_
      rintro e w2 ⟨rfl, hb⟩
      have B2 := Lib.hid (bl_then ((Below.refl _ _).alloc (Nat.le_refl _) _) hb)
      clear hb
      go_wp2
      go_ret
      exact ⟨by rw [HV.out]; rfl, B2.out⟩
  · have h1' : keyB key = false := by simpa using h1
    have HK := Lib.hid (keyE_neg h1')
    have HV := Lib.hid (show chkE key a l = 130 by rw [chkE, h1']; rfl)
    clear h1 h1'
    go_enter Try.func32, Try.ntmps32
    go_wp2_with fail
    refine (refKey_any key _).mono ?_
    rintro e w1 ⟨rfl, rfl⟩
    rw [HK.out]
    go_wp2
    go_ret
    exact ⟨by rw [HV.out]; rfl, (Below.refl _ _).alloc (Nat.le_refl _) _⟩
end Go.Proofs.Ytljfigikkajlnaa
namespace Go.Proofs.Ytljfigikkajlnaa
open Go.RowKit Go.Lib
set_option linter.unusedVariables false
set_option linter.unusedSimpArgs false
theorem chk_cases {key : ByteArray} {a : List Dot} {l : List Sib} (h : chkE key a l = 0) : keyB key = true ∧ staB a l = true ∧ (encS a l).length ≤ 280 := by
  unfold chkE at h
  by_cases h1 : keyB key = true
  · by_cases h2 : staB a l = true
    · rw [h1, h2] at h
      simp only [Bool.true_eq_false, if_false] at h
      split at h
      · omega
      · exact ⟨h1, h2, by omega⟩
    · have h2' : staB a l = false := by simpa using h2
      rw [h1, h2'] at h
      simp at h
  · have h1' : keyB key = false := by simpa using h1
    rw [h1'] at h
    simp at h
end Go.Proofs.Ytljfigikkajlnaa
namespace Go.Proofs.Ytljfigikkajlnaa
open Go.RowKit Go.Lib
set_option linter.unusedVariables false
set_option linter.unusedSimpArgs false
theorem Rdd.far {w : World} {g : Nat} {b : ByteArray} {s : RS} {p : Addr} (h : Rdd w g b s) (hp : g ≠ p.block) (u : Value) : Rdd (w.setCell p u) g b s := ⟨h.1.far hp u, h.2⟩
/-- What stands while the document takes a state. -/
structure DJ (w0 w : World) (R g S : Nat) (b : ByteArray) (st : RS) (v vs : Value) (a : List Dot) (l : List Sib) : Prop where
  r : GR.Blk w R 25 #[.slice none 0 0, .slice none 0 0]
  s : GR.Blk w S 25 #[v, vs]
  rd : Rdd w g b st
  d : GR.Own dotK w w0.heap.size v a
  l : GR.Own sibK w w0.heap.size vs l
  ne : R < S
  lr : w0.heap.size ≤ R
  gb : w0.grownBy w (some g)
theorem DJ.put {w0 w w' : World} {R g S : Nat} {b : ByteArray} {st : RS} {v vs v' : Value} {a : List Dot} {l l' : List Sib} (h : DJ w0 w R g S b st v vs a l) (ho : GR.Own sibK w' w0.heap.size v' l') (hg : w.grownBy w' vs.ownBlock) : DJ w0 (w'.setCell ⟨S, 1, none⟩ v') R g S b st v v' a l' := by
  have r1 := h.r.grown hg (fun e => GR.own_blk_ne h.l h.r (by decide) e.symm)
  have s1 := h.s.grown hg (fun e => GR.own_blk_ne h.l h.s (by decide) e.symm)
  have d1 := h.d.grown hg (own_apart h.d h.l (by decide))
  have g1 : Rdd w' g b st := ⟨h.rd.1.grown hg (fun e => GR.own_blk_ne h.l h.rd.1 (by decide) e.symm), h.rd.2⟩
  exact ⟨r1.far (show R ≠ S from Nat.ne_of_lt h.ne) _, s1.set_ 1 _, g1.far (show g ≠ S from fun e => h.rd.1.ne_ h.s (by decide) e) _,
    own_farI d1 s1 1 _ (by decide), own_farI ho s1 1 _ (by decide), h.ne, h.lr,
    GR.grown_step (GR.grown_step h.gb hg (.inr (fun k hk => (h.l.lt k hk).1))) (grown_set (g := S) 1 v') (.inr (fun k e => by injection e with e; subst e; exact Nat.le_trans h.lr (Nat.le_of_lt h.ne)))⟩
end Go.Proofs.Ytljfigikkajlnaa
namespace Go.Proofs.Ytljfigikkajlnaa
open Go.RowKit Go.Lib
set_option linter.unusedVariables false
set_option linter.unusedSimpArgs false
def n2 : List UInt8 → Nat
  | [x, y] => x.toNat * 256 + y.toNat
  | _ => 0
end Go.Proofs.Ytljfigikkajlnaa
namespace Go.Proofs.Ytljfigikkajlnaa
open Go.RowKit Go.Lib Go.Proofs.YtljfigikkajlnaaW.PrintWords
set_option linter.unusedVariables false
set_option linter.unusedSimpArgs false
theorem eqCell (d : Nat) (w : World) (a b a' b' : ByteArray) :
    (Op.equalIn (d + 2) 48 (.agg #[.string a, .string b]) (.agg #[.string a', .string b'])).run Try.prog w = .ok (decide (a = a') && decide (b = b')) w := by
  have : (decide (a = a') && decide (b = b')) = ((a.toList == a'.toList) && (b.toList == b'.toList)) := by rw [str_eq, str_eq]
  rw [this]
  refine eqA_of Try.underlying48 (by kernel_rfl) ?_
  refine eqf_cons (by rfl) (by go_simp; rfl) (by go_simp; rfl) (by go_simp) ?_
  exact eqf_last (by rfl) (by go_simp; rfl) (by go_simp; rfl) (by go_simp)
attribute [local go_sem high] eqCell
end Go.Proofs.Ytljfigikkajlnaa
namespace Go.Proofs.Ytljfigikkajlnaa
open Go.RowKit Go.Lib
set_option linter.unusedVariables false
set_option linter.unusedSimpArgs false
theorem encO_any (A C : Option Addr) (n c m d : Nat) (a : List Dot) (l : List Sib) (t : ByteArray) (x : Int) (w : World) (ha : GR.Rd dotK w A a) (hl : GR.Rd sibK w C l) (hn : n = a.length) (hm : m = l.length) (hr : StR a l) (ht : encT a l = t) (hx : encE a l = x) :
    Calls Try.prog 106 #[.agg #[.slice A n c, .slice C m d]] w fun e w' => e = .returned (.tuple #[.string t, .int .i64 x]) ∧ Below w.heap.size w w' := by
  subst hn hm ht hx
  exact dvvEncode_any A C c d a l w ha hl (fun d hd => (hr.1 d hd).1) (fun x hx => (hr.2 x hx).1) (fun d hd => (hr.1 d hd).2) (fun x hx => (hr.2 x hx).2)
def bytT (key : ByteArray) (a : List Dot) (l : List Sib) : ByteArray := if chkE key a l = 0 then ⟨(encS a l).toArray⟩ else ⟨#[]⟩
set_option maxRecDepth 100000 in
set_option maxHeartbeats 6400000 in
theorem bytes_any (key : ByteArray) (A C : Option Addr) (n c m d : Nat) (a : List Dot) (l : List Sib) (w : World) (ha : GR.Rd dotK w A a) (hl : GR.Rd sibK w C l) (hn : n = a.length) (hm : m = l.length) (hr : StR a l) :
    Calls Try.prog 62 #[.string key, .agg #[.slice A n c, .slice C m d]] w fun e w' => e = .returned (.tuple #[.string (bytT key a l), .int .i64 (chkE key a l)]) ∧ Below w.heap.size w w' := by
  have HA := Lib.hid ha
  have HL := Lib.hid hl
  have HR := Lib.hid hr
  have HN := Lib.hid hn
  have HM := Lib.hid hm
  clear ha hl hr hn hm
  by_cases h1 : keyB key = true
  · have HK := Lib.hid h1
    by_cases h2 : staB a l = true
    · obtain ⟨t1, t2⟩ := encT_yes h2
      have T1 := Lib.hid t1
      have T2 := Lib.hid t2
      have hc : chkE key a l = if 280 < (encS a l).length then 82 else 0 := by rw [chkE, h1, h2]; rfl
      have hz := szL (encS a l)
      obtain ⟨k, hk⟩ : ∃ k, k = (encS a l).length := ⟨_, rfl⟩
      rw [← hk] at hc hz
      have HC := Lib.hid hc
      clear t1 t2 hk hc h1 h2
      by_cases h3 : 280 < k
      · have d1 : decide ((280 : Int) < (k : Int)) = true := by simp; omega
        have d2 : decide (280 < k) = true := by simp; omega
        have HV := Lib.hid (show chkE key a l = 82 by rw [HC.out, if_pos h3])
        have HB := Lib.hid (show bytT key a l = ⟨#[]⟩ by rw [bytT, HV.out]; rfl)
        clear h3
        go_enter Try.func62, Try.ntmps62
        go_wp2_with fail
        refine (segKey_yes key HK.out _).mono ?_
        rintro e w1 ⟨rfl, rfl⟩
        go_wp2_with fail
        refine (encO_any A C n c m d a l _ _ _ (HA.out.alloc _) (HL.out.alloc _) HN.out HM.out HR.out T1.out T2.out).mono ?_
        rintro e w2 ⟨rfl, hb⟩
        have B2 := Lib.hid (bl_then ((Below.refl _ _).alloc (Nat.le_refl _) _) hb)
        clear hb
        go_wp2
        go_ret2
        exact ⟨by rw [HV.out, HB.out]; rfl, B2.out⟩
      · have d1 : decide ((280 : Int) < (k : Int)) = false := by simp; omega
        have d2 : decide (280 < k) = false := by simp; omega
        have HV := Lib.hid (show chkE key a l = 0 by rw [HC.out, if_neg h3])
        have HB := Lib.hid (show bytT key a l = ⟨(encS a l).toArray⟩ by rw [bytT, HV.out]; rfl)
        clear h3
        go_enter Try.func62, Try.ntmps62
        go_wp2_with fail
        refine (segKey_yes key HK.out _).mono ?_
        rintro e w1 ⟨rfl, rfl⟩
        go_wp2_with fail
        refine (encO_any A C n c m d a l _ _ _ (HA.out.alloc _) (HL.out.alloc _) HN.out HM.out HR.out T1.out T2.out).mono ?_
        rintro e w2 ⟨rfl, hb⟩
        have B2 := Lib.hid (bl_then ((Below.refl _ _).alloc (Nat.le_refl _) _) hb)
        clear hb
        go_wp2
        go_ret2
        exact ⟨by rw [HV.out, HB.out]; rfl, B2.out⟩
    · have h2' : staB a l = false := by simpa using h2
      obtain ⟨t1, t2⟩ := encT_no h2'
      have T1 := Lib.hid t1
      have T2 := Lib.hid t2
      have HV := Lib.hid (show chkE key a l = 110 by rw [chkE, h1, h2']; rfl)
      have HB := Lib.hid (show bytT key a l = ⟨#[]⟩ by rw [bytT, HV.out]; rfl)
      clear t1 t2 h1 h2 h2'
      go_enter Try.func62, Try.ntmps62
      go_wp2_with fail
      refine (segKey_yes key HK.out _).mono ?_
      rintro e w1 ⟨rfl, rfl⟩
      go_wp2_with fail
      refine (encO_any A C n c m d a l _ _ _ (HA.out.alloc _) (HL.out.alloc _) HN.out HM.out HR.out T1.out T2.out).mono ?_
      rintro e w2 ⟨rfl, hb⟩
      have B2 := Lib.hid (bl_then ((Below.refl _ _).alloc (Nat.le_refl _) _) hb)
      clear hb
      go_wp2
      go_ret2
      exact ⟨by rw [HV.out, HB.out]; rfl, B2.out⟩
  · have h1' : keyB key = false := by simpa using h1
    have HK := Lib.hid h1'
    have HV := Lib.hid (show chkE key a l = 130 by rw [chkE, h1']; rfl)
    have HB := Lib.hid (show bytT key a l = ⟨#[]⟩ by rw [bytT, HV.out]; rfl)
    clear h1 h1'
    go_enter Try.func62, Try.ntmps62
    go_wp2_with fail
    refine (segKey_no key HK.out _).mono ?_
    rintro e w1 ⟨rfl, rfl⟩
    go_wp2
    go_ret2
    exact ⟨by rw [HV.out, HB.out]; rfl, (Below.refl _ _).alloc (Nat.le_refl _) _⟩
theorem check_any (key : ByteArray) (A C : Option Addr) (n c m d : Nat) (a : List Dot) (l : List Sib) (w : World) (ha : GR.Rd dotK w A a) (hl : GR.Rd sibK w C l) (hn : n = a.length) (hm : m = l.length) (hr : StR a l) :
    Calls Try.prog 29 #[.agg #[.string key, .slice A n c, .slice C m d]] w fun e w' => e = .returned (.int .i64 (chkE key a l)) ∧ Below w.heap.size w w' := by
  have HA := Lib.hid ha
  have HL := Lib.hid hl
  have HR := Lib.hid hr
  have HN := Lib.hid hn
  have HM := Lib.hid hm
  clear ha hl hr hn hm
  go_enter Try.func29, Try.ntmps29
  go_wp2_with fail
  refine (bytes_any key A C n c m d a l _ (HA.out.alloc _) (HL.out.alloc _) HN.out HM.out HR.out).mono ?_
  rintro e w2 ⟨rfl, hb⟩
  have B2 := Lib.hid (bl_then ((Below.refl _ _).alloc (Nat.le_refl _) _) hb)
  clear hb
  go_wp2
  go_ret
  exact ⟨rfl, B2.out⟩
end Go.Proofs.Ytljfigikkajlnaa
