/- DERIVED. DvvBack: the walk of the law. -/
import Derived.Test.YtlmnmlehnigfdaaDvAwake
import Derived.Test.YtlmnmlehnigfdaaDvDec
import Derived.Test.YtlmnmlehnigfdaaDvRefValid
namespace Go.Proofs.Ytlmnmlehnigfdaa
open Go.RowKit Go.Lib
set_option linter.unusedVariables false
set_option linter.unusedSimpArgs false

def DotQ (d : Dot) : Prop := 0 ≤ d.n ∧ 0 ≤ d.a ∧ d.a ≤ 4294967295
theorem encq_at (A C : Option Addr) (n c m d B : Nat) (a : List Dot) (l : List Sib) (t : ByteArray) (x : Int) (w : World) (ho : GR.Own dotK w B (.slice A n c) a) (hs : GR.Own sibK w B (.slice C m d) l) (sa : a.length * 16 ≤ 140737488355328) (sl : l.length * 40 ≤ 140737488355328) (na : ∀ d ∈ a, DotQ d) (nl : ∀ x ∈ l, DotQ x.d) (ht : encT a l = t) (hx : encE a l = x) :
    Calls Try.prog 22 #[.agg #[.slice A n c, .slice C m d]] w fun e w' => e = .returned (.tuple #[.string t, .int .i64 x]) ∧ Below w.heap.size w w' := by
  obtain ⟨e1, _, r1⟩ := ho.rd sa
  obtain ⟨e2, _, r2⟩ := hs.rd sl
  subst e1 e2 ht hx
  exact dvvEncode_any A C c d a l w r1 r2 (fun d hd => (na d hd).1) (fun x hx => (nl x hx).1) (fun d hd => (na d hd).2) (fun x hx => (nl x hx).2)
theorem dsameq_at (A B C D : Option Addr) (c1 c2 c3 c4 n m n' m' : Nat) (a b : List Dot) (l k : List Sib) (r : Bool) (w : World) (ha : GR.Rd dotK w A a) (hl : GR.Rd sibK w B l) (hb : GR.Rd dotK w C b) (hm : GR.Rd sibK w D k) (h1 : n = a.length) (h2 : m = l.length) (h3 : n' = b.length) (h4 : m' = k.length) (hr : stEq a l b k = r) :
    Calls Try.prog 30 #[.agg #[.slice A n c1, .slice B m c2], .agg #[.slice C n' c3, .slice D m' c4]] w fun e w' => e = .returned (.bool r) ∧ Below w.heap.size w w' := by
  subst h1 h2 h3 h4 hr
  exact dvvSame_any A B C D c1 c2 c3 c4 a b l k w ha hl hb hm
theorem decq_at (b : ByteArray) (L : List UInt8) (a : List Dot) (l : List Sib) (x : Int) (w : World) (hb : b.size ≤ 140737488355328) (hL : b.data.toList = L) (h1 : decA L = a) (h2 : decL L = l) (h3 : decE L = x) :
    Calls Try.prog 25 #[.string b] w fun e w' => ∃ v1 v2, e = .returned (.tuple #[.agg #[v1, v2], .int .i64 x]) ∧ OwnS w' w.heap.size v1 v2 a l ∧ Below w.heap.size w w' := by
  subst hL h1 h2 h3
  exact decode_any b w hb
theorem dec_lenq (b : List UInt8) : (decA b).length ≤ 64 ∧ (decL b).length ≤ 64 := by
  unfold decA decL
  split
  · exact ⟨takeV_len _ _, by rw [srL_len]; exact takeS_len _⟩
  · simp
theorem dec_rng (b : List UInt8) : (∀ d ∈ decA b, DotQ d) ∧ ∀ x ∈ decL b, DotQ x.d := by
  unfold decA decL
  split
  · refine ⟨fun d hd => ?_, fun x hx => ?_⟩
    · have := takeV_in _ _ d hd
      exact ⟨this.2.2.1, this.1, this.2.1⟩
    · obtain ⟨y, hy, rfl⟩ := List.mem_map.1 hx
      have := (takeS_in _ y hy).1
      exact ⟨this.2.2.1, this.1, this.2.1⟩
  · exact ⟨fun d hd => (by cases hd), fun d hd => (by cases hd)⟩
theorem encS_len {a : List Dot} {l : List Sib} (h : staB a l = true) (ra : ∀ d ∈ a, DotQ d) (rl : ∀ x ∈ l, DotQ x.d) : (encS a l).length ≤ 10000 := by
  have hv := (sta_ok h).1
  have h1 := vecU_len (vec_len hv) (fun d hd => ⟨(ra d hd).2.2, (vec_ok hv d hd).2⟩)
  have h2 := uintU_len10 (show l.length < 18446744073709551616 by have := (sta_ok h).2.1; omega)
  have h3 := sibs_len l (fun x hx => by
    have h4 := (sta_ok h).2.2 x hx
    have h5 := (cov_vec hv x.d).1 h4.1
    have h6 := look_bound hv x.d.a
    exact ⟨(rl x hx).2.2, by omega, h4.2.1⟩)
  have h7 := (sta_ok h).2.1
  rw [encS, List.length_append, List.length_append]
  omega

set_option maxRecDepth 100000 in
set_option maxHeartbeats 25600000 in
theorem back_walk (A B : Option Addr) (c d : Nat) (a : List Dot) (l : List Sib) (b : ByteArray) (w : World) (ha : GR.Rd dotK w A a) (hl : GR.Rd sibK w B l)
    (na : ∀ d ∈ a, DotQ d) (nl : ∀ x ∈ l, DotQ x.d) (sb : b.size ≤ 140737488355328) :
    Calls Try.prog 11 #[.agg #[.slice A a.length c, .slice B l.length d], .string b] w fun e w' => e = .returned (.bool true) ∧ Below w.heap.size w w' := by
  have HQ := Lib.hid (dec_lenq b.data.toList)
  have HR := Lib.hid (dec_rng b.data.toList)
  have HEX := Lib.hid (show (decB b.data.toList = true → decE b.data.toList = 0) ∧ (decB b.data.toList = false → decE b.data.toList = 110) by constructor <;> intro h <;> simp [decE, h])
  have HA := Lib.hid ha
  have HL := Lib.hid hl
  have NA := Lib.hid na
  have NL := Lib.hid nl
  clear ha hl na nl
  go_enter Try.func11, Try.ntmps11
  go_wp2_with fail
  obtain ⟨W1, hW1⟩ : ∃ W1 : World, W1 = w.alloc (.cells #[.slice A a.length c, .slice B l.length d] 25) := ⟨_, rfl⟩
  rw [← hW1]
  have LW : Hid (Below w.heap.size w W1) := Lib.hid (by rw [hW1]; exact (by repeat (first | exact Below.refl _ _ | refine bl_drewN ?_ _ | refine bl_drew ?_ | refine bl_alloc ?_ _)))
  have XA : Hid (GR.Blk W1 w.heap.size 25 #[.slice A a.length c, .slice B l.length d]) := Lib.hid (by rw [hW1]; exact GR.Blk.new _ _ _)
  clear hW1
  have F1 := Lib.hid (HS.nil W1)
  have F2 := Lib.hid (HS.addB F1.out (g := w.heap.size) (t := 25) (cs := #[.slice A a.length c, .slice B l.length d]) (XA.out))
  clear F1
  have F3 := Lib.hid (F2.out.addR (HA.out.below LW.out))
  clear F2
  have F4 := Lib.hid (F3.out.addR (HL.out.below LW.out))
  clear F3
  clear XA
  have BB := LW
  refine (awake_any _).mono ?_
  rintro e w2 ⟨rfl, hb⟩
  have F5 := Lib.hid (F4.out.below hb)
  clear F4
  replace BB := Lib.hid (bl_then BB.out hb)
  clear hb
  have pa_0 : w2.cell? ⟨w.heap.size, 0, none⟩ = some (.slice A a.length c) := (F5.out.blk 2 rfl).cell 0
  have pa_1 : w2.cell? ⟨w.heap.size, 1, none⟩ = some (.slice B l.length d) := (F5.out.blk 2 rfl).cell 1
  go_wp2_with fail
  clear pa_0 pa_1
  refine (dvvEncode_any A B c d a l _ (F5.out.rd 1 rfl) (F5.out.rd 0 rfl) (fun d hd => (NA.out d hd).1) (fun x hx => (NL.out x hx).1) (fun d hd => (NA.out d hd).2) (fun x hx => (NL.out x hx).2)).mono ?_
  rintro e w3 ⟨rfl, hb⟩
  have F6 := Lib.hid (F5.out.below hb)
  clear F5
  replace BB := Lib.hid (bl_then BB.out hb)
  clear hb
  have pa_0 : w3.cell? ⟨w.heap.size, 0, none⟩ = some (.slice A a.length c) := (F6.out.blk 2 rfl).cell 0
  have pa_1 : w3.cell? ⟨w.heap.size, 1, none⟩ = some (.slice B l.length d) := (F6.out.blk 2 rfl).cell 1
  obtain ⟨x, hx⟩ : ∃ x, encE a l = x := ⟨_, rfl⟩
  obtain ⟨t, ht⟩ : ∃ t, encT a l = t := ⟨_, rfl⟩
  rw [hx, ht]
  have HX := Lib.hid hx
  have HT := Lib.hid ht
  clear hx ht
  go_wp2_with fail
  clear pa_0 pa_1
  refine (refSta_any A B c d a l _ (F6.out.rd 1 rfl) (F6.out.rd 0 rfl) (fun d hd => (NA.out d hd).1) (fun x hx => (NL.out x hx).1)).mono ?_
  rintro e w4 ⟨rfl, hb⟩
  have F7 := Lib.hid (F6.out.below hb)
  clear F6
  replace BB := Lib.hid (bl_then BB.out hb)
  clear hb
  by_cases h1 : staB a l = true
  · have hx0 : x = 0 := by rw [← HX.out, encE, h1]; rfl
    have htL : t.data.toList = encS a l := by rw [← HT.out, encT, h1]; simp
    have hts : t.size ≤ 140737488355328 := by
      have h9 := encS_len h1 NA.out NL.out
      have h8 : t.size = t.data.toList.length := rfl
      rw [h8, htL]; omega
    have HED := Lib.hid (enc_dec h1 (fun d hd => (NA.out d hd).2) (fun x hx => (NL.out x hx).2))
    have HE0 : Hid (decE (encS a l) = 0) := Lib.hid (by rw [decE, if_pos HED.out.1])
    have HTL := Lib.hid htL
    have bma : a.length * 16 ≤ 140737488355328 := (F7.out.rd 1 rfl).max
    have bml : l.length * 40 ≤ 140737488355328 := (F7.out.rd 0 rfl).max
    rw [h1]
    subst hx0
    clear h1 htL
    go_wp2_with fail
    refine (decq_at t _ a l 0 _ hts HTL.out HED.out.2.1 HED.out.2.2 HE0.out).mono ?_
    rintro e w5 ⟨v1, v2, rfl, ho, hb⟩
    obtain ⟨A5, n5, k5, rfl⟩ := own_slice ho.d bma
    obtain ⟨B5, m5, j5, rfl⟩ := own_slice ho.s bml
    obtain rfl : n5 = a.length := own_n' ho.d
    obtain rfl : m5 = l.length := own_n' ho.s
    have F8 := Lib.hid (F7.out.below hb)
    clear F7
    have F9 := Lib.hid (F8.out.addO (ho))
    clear F8
    replace BB := Lib.hid (bl_then BB.out hb)
    clear ho hb
    have pa_0 : w5.cell? ⟨w.heap.size, 0, none⟩ = some (.slice A a.length c) := (F9.out.blk 3 rfl).cell 0
    have pa_1 : w5.cell? ⟨w.heap.size, 1, none⟩ = some (.slice B l.length d) := (F9.out.blk 3 rfl).cell 1
    have pa_lt : w.heap.size < w5.heap.size := (F9.out.blk 3 rfl).lt
    go_wp2_with fail
    obtain ⟨W6, hW6⟩ : ∃ W : World, W = w5.alloc (.cells #[.slice A5 a.length k5, .slice B5 l.length j5] 25) := ⟨_, rfl⟩
    rw [← hW6]
    have LW6 : Hid (Below w5.heap.size w5 W6) := Lib.hid (by rw [hW6]; exact (by repeat (first | exact Below.refl _ _ | refine bl_drewN ?_ _ | refine bl_drew ?_ | refine bl_alloc ?_ _)))
    have XW6 : Hid (GR.Blk W6 w5.heap.size 25 #[.slice A5 a.length k5, .slice B5 l.length j5]) := Lib.hid (by rw [hW6]; exact GR.Blk.new _ _ _)
    clear hW6
    clear pa_0 pa_1 pa_lt
    have F10 := Lib.hid (F9.out.below LW6.out)
    clear F9
    have F11 := Lib.hid (HS.addB F10.out (g := w5.heap.size) (t := 25) (cs := #[.slice A5 a.length k5, .slice B5 l.length j5]) (XW6.out))
    clear F10
    replace BB := Lib.hid (bl_then BB.out LW6.out)
    refine (dsameq_at _ _ _ _ _ _ _ _ _ _ _ _ a a l l true _ ((F11.out.own 1 rfl).d.rd bma).2.2 ((F11.out.own 1 rfl).s.rd bml).2.2 (F11.out.rd 3 rfl) (F11.out.rd 2 rfl) rfl rfl rfl rfl (by simp [stEq])).mono ?_
    rintro e w7 ⟨rfl, hb⟩
    have F12 := Lib.hid (F11.out.below hb)
    clear F11
    replace BB := Lib.hid (bl_then BB.out hb)
    clear hb
    go_wp2_with fail
    obtain ⟨P, hP⟩ : ∃ P, decA b.data.toList = P := ⟨_, rfl⟩
    obtain ⟨Q, hQ⟩ : ∃ Q, decL b.data.toList = Q := ⟨_, rfl⟩
    have HPL : P.length ≤ 64 ∧ Q.length ≤ 64 := by rw [← hP, ← hQ]; exact HQ.out
    have HPR : Hid ((∀ d ∈ P, DotQ d) ∧ ∀ x ∈ Q, DotQ x.d) := Lib.hid (by rw [← hP, ← hQ]; exact HR.out)
    have HPP := Lib.hid hP
    have HQQ := Lib.hid hQ
    have jb1 : P.length * 16 ≤ 140737488355328 := by omega
    have jb2 : Q.length * 40 ≤ 140737488355328 := by omega
    clear hP hQ
    by_cases hB : decB b.data.toList = true
    · have HD0 := Lib.hid (HEX.out.1 hB)
      have HBK := dec_enc b.data.toList hB
      rw [HPP.out, HQQ.out] at HBK
      have HS1 : Hid (encE P Q = 0) := Lib.hid (by rw [encE, HBK.1]; rfl)
      have HS2 : Hid (encT P Q = b) := Lib.hid (by
        rw [encT, HBK.1, HBK.2]
        simp)
      have HS3 := Lib.hid HBK.1
      have tt : (b.toList == b.toList) = true := by simp
      clear HBK hB
      refine (decq_at b _ P Q 0 _ sb rfl HPP.out HQQ.out HD0.out).mono ?_
      rintro e w8 ⟨v1, v2, rfl, ho, hb⟩
      obtain ⟨A8, n8, k8, rfl⟩ := own_slice ho.d jb1
      obtain ⟨B8, m8, j8, rfl⟩ := own_slice ho.s jb2
      have F13 := Lib.hid (F12.out.below hb)
      clear F12
      have F14 := Lib.hid (F13.out.addO (ho))
      clear F13
      replace BB := Lib.hid (bl_then BB.out hb)
      clear ho hb
      go_wp2_with fail
      obtain ⟨W9, hW9⟩ : ∃ W : World, W = w8.alloc (.cells #[.slice A8 n8 k8, .slice B8 m8 j8] 25) := ⟨_, rfl⟩
      rw [← hW9]
      have LW9 : Hid (Below w8.heap.size w8 W9) := Lib.hid (by rw [hW9]; exact (by repeat (first | exact Below.refl _ _ | refine bl_drewN ?_ _ | refine bl_drew ?_ | refine bl_alloc ?_ _)))
      have XW9 : Hid (GR.Blk W9 w8.heap.size 25 #[.slice A8 n8 k8, .slice B8 m8 j8]) := Lib.hid (by rw [hW9]; exact GR.Blk.new _ _ _)
      clear hW9
      have F15 := Lib.hid (F14.out.below LW9.out)
      clear F14
      have F16 := Lib.hid (HS.addB F15.out (g := w8.heap.size) (t := 25) (cs := #[.slice A8 n8 k8, .slice B8 m8 j8]) (XW9.out))
      clear F15
      replace BB := Lib.hid (bl_then BB.out LW9.out)
      refine (encq_at _ _ _ _ _ _ _ P Q b 0 _ ((F16.out.own 1 rfl)).d ((F16.out.own 1 rfl)).s jb1 jb2 HPR.out.1 HPR.out.2 HS2.out HS1.out).mono ?_
      rintro e w10 ⟨rfl, hb⟩
      have F17 := Lib.hid (F16.out.below hb)
      clear F16
      replace BB := Lib.hid (bl_then BB.out hb)
      clear hb
      have pu_0 : w10.cell? ⟨w8.heap.size, 0, none⟩ = some (.slice A8 n8 k8) := (F17.out.blk 0 rfl).cell 0
      have pu_1 : w10.cell? ⟨w8.heap.size, 1, none⟩ = some (.slice B8 m8 j8) := (F17.out.blk 0 rfl).cell 1
      go_wp2_with fail
      clear pu_0 pu_1
      refine (dvalid_at _ _ _ _ _ _ _ P Q _ ((F17.out.own 1 rfl)).d ((F17.out.own 1 rfl)).s HPL.1 HPL.2 (fun d hd => (HPR.out.1 d hd).1) (fun x hx => (HPR.out.2 x hx).1)).mono ?_
      rintro e w11 ⟨rfl, hb⟩
      have F18 := Lib.hid (F17.out.below hb)
      clear F17
      replace BB := Lib.hid (bl_then BB.out hb)
      clear hb
      rw [HS3.out]
      go_wp2
      go_ret
      exact ⟨rfl, BB.out⟩
    · have hB2 : decB b.data.toList = false := by simpa using hB
      have HD0 := Lib.hid (HEX.out.2 hB2)
      clear hB hB2
      refine (decq_at b _ P Q 110 _ sb rfl HPP.out HQQ.out HD0.out).mono ?_
      rintro e w8 ⟨v1, v2, rfl, ho, hb⟩
      obtain ⟨A8, n8, k8, rfl⟩ := own_slice ho.d jb1
      obtain ⟨B8, m8, j8, rfl⟩ := own_slice ho.s jb2
      replace BB := Lib.hid (bl_then BB.out hb)
      clear ho hb
      go_wp2
      go_ret
      exact ⟨rfl, bl_alloc BB.out _⟩
  · have h1' : staB a l = false := by simpa using h1
    have hx0 : x = 110 := by rw [← HX.out, encE, h1']; rfl
    rw [h1']
    subst hx0
    clear h1 h1'
    go_wp2_with fail
    obtain ⟨P, hP⟩ : ∃ P, decA b.data.toList = P := ⟨_, rfl⟩
    obtain ⟨Q, hQ⟩ : ∃ Q, decL b.data.toList = Q := ⟨_, rfl⟩
    have HPL : P.length ≤ 64 ∧ Q.length ≤ 64 := by rw [← hP, ← hQ]; exact HQ.out
    have HPR : Hid ((∀ d ∈ P, DotQ d) ∧ ∀ x ∈ Q, DotQ x.d) := Lib.hid (by rw [← hP, ← hQ]; exact HR.out)
    have HPP := Lib.hid hP
    have HQQ := Lib.hid hQ
    have jb1 : P.length * 16 ≤ 140737488355328 := by omega
    have jb2 : Q.length * 40 ≤ 140737488355328 := by omega
    clear hP hQ
    by_cases hB : decB b.data.toList = true
    · have HD0 := Lib.hid (HEX.out.1 hB)
      have HBK := dec_enc b.data.toList hB
      rw [HPP.out, HQQ.out] at HBK
      have HS1 : Hid (encE P Q = 0) := Lib.hid (by rw [encE, HBK.1]; rfl)
      have HS2 : Hid (encT P Q = b) := Lib.hid (by
        rw [encT, HBK.1, HBK.2]
        simp)
      have HS3 := Lib.hid HBK.1
      have tt : (b.toList == b.toList) = true := by simp
      clear HBK hB
      refine (decq_at b _ P Q 0 _ sb rfl HPP.out HQQ.out HD0.out).mono ?_
      rintro e w8 ⟨v1, v2, rfl, ho, hb⟩
      obtain ⟨A8, n8, k8, rfl⟩ := own_slice ho.d jb1
      obtain ⟨B8, m8, j8, rfl⟩ := own_slice ho.s jb2
      have F19 := Lib.hid (F7.out.below hb)
      clear F7
      have F20 := Lib.hid (F19.out.addO (ho))
      clear F19
      replace BB := Lib.hid (bl_then BB.out hb)
      clear ho hb
      go_wp2_with fail
      obtain ⟨W9, hW9⟩ : ∃ W : World, W = w8.alloc (.cells #[.slice A8 n8 k8, .slice B8 m8 j8] 25) := ⟨_, rfl⟩
      rw [← hW9]
      have LW9 : Hid (Below w8.heap.size w8 W9) := Lib.hid (by rw [hW9]; exact (by repeat (first | exact Below.refl _ _ | refine bl_drewN ?_ _ | refine bl_drew ?_ | refine bl_alloc ?_ _)))
      have XW9 : Hid (GR.Blk W9 w8.heap.size 25 #[.slice A8 n8 k8, .slice B8 m8 j8]) := Lib.hid (by rw [hW9]; exact GR.Blk.new _ _ _)
      clear hW9
      have F21 := Lib.hid (F20.out.below LW9.out)
      clear F20
      have F22 := Lib.hid (HS.addB F21.out (g := w8.heap.size) (t := 25) (cs := #[.slice A8 n8 k8, .slice B8 m8 j8]) (XW9.out))
      clear F21
      replace BB := Lib.hid (bl_then BB.out LW9.out)
      refine (encq_at _ _ _ _ _ _ _ P Q b 0 _ ((F22.out.own 1 rfl)).d ((F22.out.own 1 rfl)).s jb1 jb2 HPR.out.1 HPR.out.2 HS2.out HS1.out).mono ?_
      rintro e w10 ⟨rfl, hb⟩
      have F23 := Lib.hid (F22.out.below hb)
      clear F22
      replace BB := Lib.hid (bl_then BB.out hb)
      clear hb
      have pu_0 : w10.cell? ⟨w8.heap.size, 0, none⟩ = some (.slice A8 n8 k8) := (F23.out.blk 0 rfl).cell 0
      have pu_1 : w10.cell? ⟨w8.heap.size, 1, none⟩ = some (.slice B8 m8 j8) := (F23.out.blk 0 rfl).cell 1
      go_wp2_with fail
      clear pu_0 pu_1
      refine (dvalid_at _ _ _ _ _ _ _ P Q _ ((F23.out.own 1 rfl)).d ((F23.out.own 1 rfl)).s HPL.1 HPL.2 (fun d hd => (HPR.out.1 d hd).1) (fun x hx => (HPR.out.2 x hx).1)).mono ?_
      rintro e w11 ⟨rfl, hb⟩
      have F24 := Lib.hid (F23.out.below hb)
      clear F23
      replace BB := Lib.hid (bl_then BB.out hb)
      clear hb
      rw [HS3.out]
      go_wp2
      go_ret
      exact ⟨rfl, BB.out⟩
    · have hB2 : decB b.data.toList = false := by simpa using hB
      have HD0 := Lib.hid (HEX.out.2 hB2)
      clear hB hB2
      refine (decq_at b _ P Q 110 _ sb rfl HPP.out HQQ.out HD0.out).mono ?_
      rintro e w8 ⟨v1, v2, rfl, ho, hb⟩
      obtain ⟨A8, n8, k8, rfl⟩ := own_slice ho.d jb1
      obtain ⟨B8, m8, j8, rfl⟩ := own_slice ho.s jb2
      replace BB := Lib.hid (bl_then BB.out hb)
      clear ho hb
      go_wp2
      go_ret
      exact ⟨rfl, bl_alloc BB.out _⟩
end Go.Proofs.Ytlmnmlehnigfdaa
