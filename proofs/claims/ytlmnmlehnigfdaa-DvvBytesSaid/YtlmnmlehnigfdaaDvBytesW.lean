/- DERIVED. DvvBytes: the walk of the law. -/
import Derived.Test.YtlmnmlehnigfdaaDvKept
import Derived.Test.YtlmnmlehnigfdaaDvLent
import Derived.Test.YtlmnmlehnigfdaaDvOverR
import Derived.Test.YtlmnmlehnigfdaaDvRefDec
namespace Go.Proofs.Ytlmnmlehnigfdaa
open Go.RowKit
set_option linter.unusedVariables false
set_option linter.unusedSimpArgs false

theorem enc_at (A C : Option Addr) (n c m d B : Nat) (a : List Dot) (l : List Sib) (w : World) (ho : GR.Own dotK w B (.slice A n c) a) (hs : GR.Own sibK w B (.slice C m d) l) (sa : a.length * 16 ≤ 140737488355328) (sl : l.length * 40 ≤ 140737488355328) (na : ∀ d ∈ a, DotR d) (nl : ∀ x ∈ l, DotR x.d) :
    Calls Try.prog 22 #[.agg #[.slice A n c, .slice C m d]] w fun e w' => e = .returned (.tuple #[.string (encT a l), .int .i64 (encE a l)]) ∧ Below w.heap.size w w' := by
  obtain ⟨e1, _, r1⟩ := ho.rd sa
  obtain ⟨e2, _, r2⟩ := hs.rd sl
  subst e1 e2
  exact dvvEncode_any A C c d a l w r1 r2 (fun d hd => (na d hd).1) (fun x hx => (nl x hx).1) (fun d hd => (na d hd).2) (fun x hx => (nl x hx).2)
theorem renc_at (A C : Option Addr) (n c m d B : Nat) (a : List Dot) (l : List Sib) (w : World) (ho : GR.Own dotK w B (.slice A n c) a) (hs : GR.Own sibK w B (.slice C m d) l) (sa : a.length * 16 ≤ 140737488355328) (sl : l.length * 40 ≤ 140737488355328) (na : ∀ d ∈ a, DotR d) (nl : ∀ x ∈ l, DotR x.d) :
    Calls Try.prog 21 #[.agg #[.slice A n c, .slice C m d]] w fun e w' => e = .returned (.tuple #[.string (encT a l), .int .i64 (encE a l)]) ∧ Below w.heap.size w w' := by
  obtain ⟨e1, _, r1⟩ := ho.rd sa
  obtain ⟨e2, _, r2⟩ := hs.rd sl
  subst e1 e2
  exact refEncode_any A C c d a l w r1 r2 (fun d hd => (na d hd).1) (fun x hx => (nl x hx).1) (fun d hd => (na d hd).2) (fun x hx => (nl x hx).2)
theorem twin_at2 (A C : Option Addr) (n c m d B : Nat) (a : List Dot) (l : List Sib) (w : World) (ho : GR.Own dotK w B (.slice A n c) a) (hs : GR.Own sibK w B (.slice C m d) l) (sa : a.length * 16 ≤ 140737488355328) (sl : l.length * 40 ≤ 140737488355328) :
    Calls Try.prog 18 #[.agg #[.slice A n c, .slice C m d]] w fun e w' => ∃ v1 v2, e = .returned (.agg #[v1, v2]) ∧ OwnS w' w.heap.size v1 v2 a l ∧ Below w.heap.size w w' := by
  obtain ⟨e1, _, r1⟩ := ho.rd sa
  obtain ⟨e2, _, r2⟩ := hs.rd sl
  subst e1 e2
  refine (twin_any A C c d a l w r1 r2).mono ?_
  rintro e w' ⟨v1, v2, h1, h2, h3, h4⟩
  exact ⟨v1, v2, h1, ⟨h2, h3⟩, h4⟩
theorem dec_len (b : List UInt8) : (decA b).length ≤ 64 ∧ (decL b).length ≤ 64 := by
  unfold decA decL
  split
  · exact ⟨takeV_len _ _, by rw [srL_len]; exact takeS_len _⟩
  · simp
theorem dec_pos (b : List UInt8) : (∀ d ∈ decA b, 0 ≤ d.n) ∧ ∀ x ∈ decL b, 0 ≤ x.d.n := by
  unfold decA decL
  split
  · refine ⟨fun d hd => (takeV_in _ _ d hd).2.2.1, fun x hx => ?_⟩
    obtain ⟨y, hy, rfl⟩ := List.mem_map.1 hx
    exact (takeS_in _ y hy).1.2.2.1
  · exact ⟨fun d hd => (by cases hd), fun d hd => (by cases hd)⟩

set_option maxRecDepth 100000 in
set_option maxHeartbeats 25600000 in
theorem bytes_walk (A B : Option Addr) (c d : Nat) (a : List Dot) (l : List Sib) (b : ByteArray) (w : World) (ha : GR.Rd dotK w A a) (hl : GR.Rd sibK w B l) (sa : a.length * 16 ≤ 140737488351232) (sl : l.length * 40 ≤ 140737488351232)
    (na : ∀ d ∈ a, DotR d) (nl : ∀ x ∈ l, DotR x.d) (sb : b.size ≤ 140737488355328) :
    Calls Try.prog 5 #[.agg #[.slice A a.length c, .slice B l.length d], .string b] w fun e w' => e = .returned (.bool true) ∧ Below w.heap.size w w' := by
  have bma : a.length * 16 ≤ 140737488355328 := by omega
  have bml : l.length * 40 ≤ 140737488355328 := by omega
  have dl := dec_len b.data.toList
  have jb1 : (decA b.data.toList).length * 16 ≤ 140737488355328 := by have := dl.1; omega
  have jb2 : (decL b.data.toList).length * 40 ≤ 140737488355328 := by have := dl.2; omega
  have HJ := Lib.hid dl
  have HP := Lib.hid (dec_pos b.data.toList)
  clear dl
  have HA := Lib.hid ha
  have HL := Lib.hid hl
  have NA := Lib.hid na
  have NL := Lib.hid nl
  clear ha hl na nl
  go_enter Try.func5, Try.ntmps5
  go_wp2_with fail
  obtain ⟨W1, hW1⟩ : ∃ W1 : World, W1 = w.alloc (.cells #[.slice A a.length c, .slice B l.length d] 25) := ⟨_, rfl⟩
  rw [← hW1]
  have LW : Hid (Below w.heap.size w W1) := Lib.hid (by rw [hW1]; exact (by repeat (first | exact Below.refl _ _ | refine bl_drewN ?_ _ | refine bl_drew ?_ | refine bl_alloc ?_ _)))
  have XA : Hid (GR.Blk W1 w.heap.size 25 #[.slice A a.length c, .slice B l.length d]) := Lib.hid (by rw [hW1]; exact GR.Blk.new _ _ _)
  clear hW1
  have F1 := Lib.hid (HS.nil W1)
  have F2 := Lib.hid (HS.addB F1.out (g := w.heap.size) (t := 25) (cs := #[.slice A a.length c, .slice B l.length d]) (XA.out))
  clear F1
  have F3 := Lib.hid (F2.out.addR (HA.out.below LW.out))
  clear F2
  have F4 := Lib.hid (F3.out.addR (HL.out.below LW.out))
  clear F3
  clear XA
  refine (lent_any A B c d a l _ (F4.out.rd 1 rfl) (F4.out.rd 0 rfl) sa sl).mono ?_
  rintro e w2 ⟨g1, c1, g2, c3, rfl, ho, hb⟩
  have F5 := Lib.hid (F4.out.below hb)
  clear F4
  have F6 := Lib.hid (F5.out.addO (ho))
  clear F5
  have F7 := Lib.hid (F6.out.addO (⟨GR.Own.take ho.d, GR.Own.take ho.s⟩))
  clear F6
  have RX1 := Lib.hid (show ∀ k, rows2 (.slice (some ⟨g1, 0, none⟩) a.length c1) (.slice (some ⟨g2, 0, none⟩) l.length c3) k → W1.heap.size ≤ k from ho.ge)
  have RX2 := Lib.hid (show ∀ k, rows2 (.slice (some ⟨g1, 0, none⟩) a.length c1) (.slice (some ⟨g2, 0, none⟩) l.length c3) k → k < w2.heap.size from ho.lt)
  have BB := Lib.hid hb
  have S2 : W1.heap.size ≤ w2.heap.size := hb.size
  clear ho hb
  have pa_0 : w2.cell? ⟨w.heap.size, 0, none⟩ = some (.slice A a.length c) := (F7.out.blk 4 rfl).cell 0
  have pa_1 : w2.cell? ⟨w.heap.size, 1, none⟩ = some (.slice B l.length d) := (F7.out.blk 4 rfl).cell 1
  have pa_lt : w.heap.size < w2.heap.size := (F7.out.blk 4 rfl).lt
  go_wp2_with fail
  obtain ⟨W3, hW3⟩ : ∃ W : World, W = w2.alloc (.cells #[.slice (some ⟨g1, 0, none⟩) a.length c1, .slice (some ⟨g2, 0, none⟩) l.length c3] 25) := ⟨_, rfl⟩
  rw [← hW3]
  have LW3 : Hid (Below w2.heap.size w2 W3) := Lib.hid (by rw [hW3]; exact (by repeat (first | exact Below.refl _ _ | refine bl_drewN ?_ _ | refine bl_drew ?_ | refine bl_alloc ?_ _)))
  have XW3 : Hid (GR.Blk W3 w2.heap.size 25 #[.slice (some ⟨g1, 0, none⟩) a.length c1, .slice (some ⟨g2, 0, none⟩) l.length c3]) := Lib.hid (by rw [hW3]; exact GR.Blk.new _ _ _)
  have SW3 : w2.heap.size < W3.heap.size := XW3.out.lt
  clear hW3
  clear pa_0 pa_1 pa_lt
  have F8 := Lib.hid (F7.out.below LW3.out)
  clear F7
  have F9 := Lib.hid (HS.addB F8.out (g := w2.heap.size) (t := 25) (cs := #[.slice (some ⟨g1, 0, none⟩) a.length c1, .slice (some ⟨g2, 0, none⟩) l.length c3]) (XW3.out))
  clear F8
  replace BB := Lib.hid (bl_then BB.out LW3.out)
  refine (refEncode_any A B c d a l _ (F9.out.rd 4 rfl) (F9.out.rd 3 rfl) (fun d hd => (NA.out d hd).1) (fun x hx => (NL.out x hx).1) (fun d hd => (NA.out d hd).2) (fun x hx => (NL.out x hx).2)).mono ?_
  rintro e w4 ⟨rfl, hb⟩
  have F10 := Lib.hid (F9.out.below hb)
  clear F9
  replace BB := Lib.hid (bl_then BB.out hb)
  clear hb
  have px_0 : w4.cell? ⟨w2.heap.size, 0, none⟩ = some (.slice (some ⟨g1, 0, none⟩) a.length c1) := (F10.out.blk 0 rfl).cell 0
  have px_1 : w4.cell? ⟨w2.heap.size, 1, none⟩ = some (.slice (some ⟨g2, 0, none⟩) l.length c3) := (F10.out.blk 0 rfl).cell 1
  go_wp2_with fail
  clear px_0 px_1
  refine (enc_at _ _ _ _ _ _ _ a l _ ((F10.out.own 1 rfl)).d ((F10.out.own 1 rfl)).s bma bml NA.out NL.out).mono ?_
  rintro e w5 ⟨rfl, hb⟩
  have F11 := Lib.hid (F10.out.below hb)
  clear F10
  replace BB := Lib.hid (bl_then BB.out hb)
  clear hb
  have tt : ((encT a l).toList == (encT a l).toList) = true := by simp
  have ee : (encE a l != encE a l) = false := by simp
  have px_0 : w5.cell? ⟨w2.heap.size, 0, none⟩ = some (.slice (some ⟨g1, 0, none⟩) a.length c1) := (F11.out.blk 0 rfl).cell 0
  have px_1 : w5.cell? ⟨w2.heap.size, 1, none⟩ = some (.slice (some ⟨g2, 0, none⟩) l.length c3) := (F11.out.blk 0 rfl).cell 1
  have pa_0 : w5.cell? ⟨w.heap.size, 0, none⟩ = some (.slice A a.length c) := (F11.out.blk 5 rfl).cell 0
  have pa_1 : w5.cell? ⟨w.heap.size, 1, none⟩ = some (.slice B l.length d) := (F11.out.blk 5 rfl).cell 1
  go_wp2_with fail
  clear px_0 px_1 pa_0 pa_1
  clear tt ee
  refine (kept_any g1 c1 g2 c3 _ A B c d a l _ (F11.out.rd 4 rfl) (F11.out.rd 3 rfl) sa sl (F11.out.own 2 rfl)).mono ?_
  rintro e w6 ⟨rfl, hb⟩
  have F12 := Lib.hid (F11.out.below hb)
  clear F11
  replace BB := Lib.hid (bl_then BB.out hb)
  clear hb
  have px_0 : w6.cell? ⟨w2.heap.size, 0, none⟩ = some (.slice (some ⟨g1, 0, none⟩) a.length c1) := (F12.out.blk 0 rfl).cell 0
  have px_1 : w6.cell? ⟨w2.heap.size, 1, none⟩ = some (.slice (some ⟨g2, 0, none⟩) l.length c3) := (F12.out.blk 0 rfl).cell 1
  go_wp2_with fail
  clear px_0 px_1
  refine (overR_any _ _ _ a l _ (F12.out.own 1 rfl) sa sl NA.out NL.out).mono ?_
  rintro e w7 ⟨⟨r7, rfl⟩, a', l', xl1, xl2, na2, nl2, ho, hc⟩
  have Bpx : Hid (GR.Blk w7 w2.heap.size 25 #[.slice (some ⟨g1, 0, none⟩) a.length c1, .slice (some ⟨g2, 0, none⟩) l.length c3]) := Lib.hid (((F12.out.own 1 rfl)).blk (F12.out.blk 0 rfl) hc)
  have OX : Hid (OwnS w7 W1.heap.size (.slice (some ⟨g1, 0, none⟩) a.length c1) (.slice (some ⟨g2, 0, none⟩) l.length c3) a' l') := Lib.hid ho
  have NA2 := Lib.hid na2
  have NL2 := Lib.hid nl2
  have BW : Hid (Below W1.heap.size W1 w7) := Lib.hid (Below.trans BB.out (hc.below BB.out.size (fun k hk => RX1.out k hk)))
  have bma2 : a'.length * 16 ≤ 140737488355328 := by omega
  have bml2 : l'.length * 40 ≤ 140737488355328 := by omega
  clear ho hc na2 nl2 xl1 xl2 BB RX1 RX2
  have F13 := Lib.hid (HS.nil w7)
  have F14 := Lib.hid (HS.addB F13.out (g := w2.heap.size) (t := 25) (cs := #[.slice (some ⟨g1, 0, none⟩) a.length c1, .slice (some ⟨g2, 0, none⟩) l.length c3]) (Bpx.out))
  clear F13
  have F15 := Lib.hid (F14.out.addO (OX.out))
  clear F14
  have BB := Lib.hid (Below.refl w7.heap.size w7)
  have px_0 : w7.cell? ⟨w2.heap.size, 0, none⟩ = some (.slice (some ⟨g1, 0, none⟩) a.length c1) := (F15.out.blk 1 rfl).cell 0
  have px_1 : w7.cell? ⟨w2.heap.size, 1, none⟩ = some (.slice (some ⟨g2, 0, none⟩) l.length c3) := (F15.out.blk 1 rfl).cell 1
  go_wp2_with fail
  clear px_0 px_1
  refine (twin_at2 _ _ _ _ _ _ _ a' l' _ ((F15.out.own 0 rfl)).d ((F15.out.own 0 rfl)).s bma2 bml2).mono ?_
  rintro e w8 ⟨v1, v2, rfl, ho, hb⟩
  obtain ⟨A8, n8, k8, rfl⟩ := own_slice ho.d bma2
  obtain ⟨B8, m8, j8, rfl⟩ := own_slice ho.s bml2
  have HO8 := Lib.hid ho
  clear ho
  have F16 := Lib.hid (F15.out.below hb)
  clear F15
  replace BB := Lib.hid (bl_then BB.out hb)
  clear hb
  go_wp2_with fail
  refine (renc_at _ _ _ _ _ _ _ a' l' _ HO8.out.d HO8.out.s bma2 bml2 NA2.out NL2.out).mono ?_
  rintro e w9 ⟨rfl, hb⟩
  have F17 := Lib.hid (F16.out.below hb)
  clear F16
  replace BB := Lib.hid (bl_then BB.out hb)
  clear hb
  have px_0 : w9.cell? ⟨w2.heap.size, 0, none⟩ = some (.slice (some ⟨g1, 0, none⟩) a.length c1) := (F17.out.blk 1 rfl).cell 0
  have px_1 : w9.cell? ⟨w2.heap.size, 1, none⟩ = some (.slice (some ⟨g2, 0, none⟩) l.length c3) := (F17.out.blk 1 rfl).cell 1
  go_wp2_with fail
  clear px_0 px_1
  refine (enc_at _ _ _ _ _ _ _ a' l' _ ((F17.out.own 0 rfl)).d ((F17.out.own 0 rfl)).s bma2 bml2 NA2.out NL2.out).mono ?_
  rintro e w10 ⟨rfl, hb⟩
  have F18 := Lib.hid (F17.out.below hb)
  clear F17
  replace BB := Lib.hid (bl_then BB.out hb)
  clear hb
  have h10 : w7.heap.size ≤ w10.heap.size := BB.out.size
  have tt : ((encT a' l').toList == (encT a' l').toList) = true := by simp
  have ee : (encE a' l' != encE a' l') = false := by simp
  go_wp2_with fail
  clear tt ee
  refine (refDecode_any b _ sb).mono ?_
  rintro e w11 ⟨v1, v2, rfl, ho, hb⟩
  obtain ⟨A1, n1, k1, rfl⟩ := own_slice ho.d jb1
  obtain ⟨A2, n2, k2, rfl⟩ := own_slice ho.s jb2
  obtain rfl : n1 = (decA b.data.toList).length := own_n' ho.d
  obtain rfl : n2 = (decL b.data.toList).length := own_n' ho.s
  have F19 := Lib.hid (F18.out.below hb)
  clear F18
  have F20 := Lib.hid (F19.out.addO (ho))
  clear F19
  have Rwant1 := Lib.hid (show ∀ k, rows2 (.slice A1 (decA b.data.toList).length k1) (.slice A2 (decL b.data.toList).length k2) k → w10.heap.size ≤ k from ho.ge)
  have Rwant2 := Lib.hid (show ∀ k, rows2 (.slice A1 (decA b.data.toList).length k1) (.slice A2 (decL b.data.toList).length k2) k → k < w11.heap.size from ho.lt)
  have Sw11 : w10.heap.size ≤ w11.heap.size := hb.size
  replace BB := Lib.hid (bl_then BB.out hb)
  clear ho hb
  go_wp2_with fail
  obtain ⟨W12, hW12⟩ : ∃ W : World, W = w11.alloc (.cells #[.slice A1 (decA b.data.toList).length k1, .slice A2 (decL b.data.toList).length k2] 25) := ⟨_, rfl⟩
  rw [← hW12]
  have LW12 : Hid (Below w11.heap.size w11 W12) := Lib.hid (by rw [hW12]; exact (by repeat (first | exact Below.refl _ _ | refine bl_drewN ?_ _ | refine bl_drew ?_ | refine bl_alloc ?_ _)))
  have XW12 : Hid (GR.Blk W12 w11.heap.size 25 #[.slice A1 (decA b.data.toList).length k1, .slice A2 (decL b.data.toList).length k2]) := Lib.hid (by rw [hW12]; exact GR.Blk.new _ _ _)
  have SW12 : w11.heap.size < W12.heap.size := XW12.out.lt
  clear hW12
  have F21 := Lib.hid (F20.out.below LW12.out)
  clear F20
  have F22 := Lib.hid (HS.addB F21.out (g := w11.heap.size) (t := 25) (cs := #[.slice A1 (decA b.data.toList).length k1, .slice A2 (decL b.data.toList).length k2]) (XW12.out))
  clear F21
  replace BB := Lib.hid (bl_then BB.out LW12.out)
  refine (decode_any b _ sb).mono ?_
  rintro e w13 ⟨v1, v2, rfl, ho, hb⟩
  obtain ⟨A3, n3, k3, rfl⟩ := own_slice ho.d jb1
  obtain ⟨A4, n4, k4, rfl⟩ := own_slice ho.s jb2
  obtain rfl : n3 = (decA b.data.toList).length := own_n' ho.d
  obtain rfl : n4 = (decL b.data.toList).length := own_n' ho.s
  have F23 := Lib.hid (F22.out.below hb)
  clear F22
  have F24 := Lib.hid (F23.out.addO (ho))
  clear F23
  have Rone1 := Lib.hid (show ∀ k, rows2 (.slice A3 (decA b.data.toList).length k3) (.slice A4 (decL b.data.toList).length k4) k → W12.heap.size ≤ k from ho.ge)
  have Rone2 := Lib.hid (show ∀ k, rows2 (.slice A3 (decA b.data.toList).length k3) (.slice A4 (decL b.data.toList).length k4) k → k < w13.heap.size from ho.lt)
  have Sw13 : W12.heap.size ≤ w13.heap.size := hb.size
  replace BB := Lib.hid (bl_then BB.out hb)
  clear ho hb
  go_wp2_with fail
  obtain ⟨W14, hW14⟩ : ∃ W : World, W = w13.alloc (.cells #[.slice A3 (decA b.data.toList).length k3, .slice A4 (decL b.data.toList).length k4] 25) := ⟨_, rfl⟩
  rw [← hW14]
  have LW14 : Hid (Below w13.heap.size w13 W14) := Lib.hid (by rw [hW14]; exact (by repeat (first | exact Below.refl _ _ | refine bl_drewN ?_ _ | refine bl_drew ?_ | refine bl_alloc ?_ _)))
  have XW14 : Hid (GR.Blk W14 w13.heap.size 25 #[.slice A3 (decA b.data.toList).length k3, .slice A4 (decL b.data.toList).length k4]) := Lib.hid (by rw [hW14]; exact GR.Blk.new _ _ _)
  have SW14 : w13.heap.size < W14.heap.size := XW14.out.lt
  clear hW14
  have F25 := Lib.hid (F24.out.below LW14.out)
  clear F24
  have F26 := Lib.hid (HS.addB F25.out (g := w13.heap.size) (t := 25) (cs := #[.slice A3 (decA b.data.toList).length k3, .slice A4 (decL b.data.toList).length k4]) (XW14.out))
  clear F25
  replace BB := Lib.hid (bl_then BB.out LW14.out)
  refine (decode_any b _ sb).mono ?_
  rintro e w15 ⟨v1, v2, rfl, ho, hb⟩
  obtain ⟨A5, n5, k5, rfl⟩ := own_slice ho.d jb1
  obtain ⟨A6, n6, k6, rfl⟩ := own_slice ho.s jb2
  obtain rfl : n5 = (decA b.data.toList).length := own_n' ho.d
  obtain rfl : n6 = (decL b.data.toList).length := own_n' ho.s
  have F27 := Lib.hid (F26.out.below hb)
  clear F26
  have F28 := Lib.hid (F27.out.addO (ho))
  clear F27
  have Rtwo1 := Lib.hid (show ∀ k, rows2 (.slice A5 (decA b.data.toList).length k5) (.slice A6 (decL b.data.toList).length k6) k → W14.heap.size ≤ k from ho.ge)
  have Rtwo2 := Lib.hid (show ∀ k, rows2 (.slice A5 (decA b.data.toList).length k5) (.slice A6 (decL b.data.toList).length k6) k → k < w15.heap.size from ho.lt)
  have Sw15 : W14.heap.size ≤ w15.heap.size := hb.size
  replace BB := Lib.hid (bl_then BB.out hb)
  clear ho hb
  have p1_0 : w15.cell? ⟨w13.heap.size, 0, none⟩ = some (.slice A3 (decA b.data.toList).length k3) := (F28.out.blk 1 rfl).cell 0
  have p1_1 : w15.cell? ⟨w13.heap.size, 1, none⟩ = some (.slice A4 (decL b.data.toList).length k4) := (F28.out.blk 1 rfl).cell 1
  have pw_0 : w15.cell? ⟨w11.heap.size, 0, none⟩ = some (.slice A1 (decA b.data.toList).length k1) := (F28.out.blk 3 rfl).cell 0
  have pw_1 : w15.cell? ⟨w11.heap.size, 1, none⟩ = some (.slice A2 (decL b.data.toList).length k2) := (F28.out.blk 3 rfl).cell 1
  have p1_lt : w13.heap.size < w15.heap.size := (F28.out.blk 1 rfl).lt
  have pw_lt : w11.heap.size < w15.heap.size := (F28.out.blk 3 rfl).lt
  have ee : (decE b.data.toList != decE b.data.toList) = false := by simp
  go_wp2_with fail
  obtain ⟨W16, hW16⟩ : ∃ W : World, W = w15.alloc (.cells #[.slice A5 (decA b.data.toList).length k5, .slice A6 (decL b.data.toList).length k6] 25) := ⟨_, rfl⟩
  rw [← hW16]
  have LW16 : Hid (Below w15.heap.size w15 W16) := Lib.hid (by rw [hW16]; exact (by repeat (first | exact Below.refl _ _ | refine bl_drewN ?_ _ | refine bl_drew ?_ | refine bl_alloc ?_ _)))
  have XW16 : Hid (GR.Blk W16 w15.heap.size 25 #[.slice A5 (decA b.data.toList).length k5, .slice A6 (decL b.data.toList).length k6]) := Lib.hid (by rw [hW16]; exact GR.Blk.new _ _ _)
  have SW16 : w15.heap.size < W16.heap.size := XW16.out.lt
  clear hW16
  clear p1_0 p1_1 p1_lt pw_0 pw_1 pw_lt
  have F29 := Lib.hid (F28.out.below LW16.out)
  clear F28
  have F30 := Lib.hid (HS.addB F29.out (g := w15.heap.size) (t := 25) (cs := #[.slice A5 (decA b.data.toList).length k5, .slice A6 (decL b.data.toList).length k6]) (XW16.out))
  clear F29
  replace BB := Lib.hid (bl_then BB.out LW16.out)
  refine (same_self _ _ _ _ _ _ _ _ _ _ _ _ (decA b.data.toList) (decL b.data.toList) _ ((F30.out.own 3 rfl).d.rd jb1).2.2 ((F30.out.own 3 rfl).s.rd jb2).2.2 ((F30.out.own 5 rfl).d.rd jb1).2.2 ((F30.out.own 5 rfl).s.rd jb2).2.2 rfl rfl rfl rfl).mono ?_
  rintro e w17 ⟨rfl, hb⟩
  have F31 := Lib.hid (F30.out.below hb)
  clear F30
  replace BB := Lib.hid (bl_then BB.out hb)
  clear hb
  have p2_0 : w17.cell? ⟨w15.heap.size, 0, none⟩ = some (.slice A5 (decA b.data.toList).length k5) := (F31.out.blk 0 rfl).cell 0
  have p2_1 : w17.cell? ⟨w15.heap.size, 1, none⟩ = some (.slice A6 (decL b.data.toList).length k6) := (F31.out.blk 0 rfl).cell 1
  have pw_0 : w17.cell? ⟨w11.heap.size, 0, none⟩ = some (.slice A1 (decA b.data.toList).length k1) := (F31.out.blk 4 rfl).cell 0
  have pw_1 : w17.cell? ⟨w11.heap.size, 1, none⟩ = some (.slice A2 (decL b.data.toList).length k2) := (F31.out.blk 4 rfl).cell 1
  go_wp2_with fail
  clear p2_0 p2_1 pw_0 pw_1
  refine (same_self _ _ _ _ _ _ _ _ _ _ _ _ (decA b.data.toList) (decL b.data.toList) _ ((F31.out.own 1 rfl).d.rd jb1).2.2 ((F31.out.own 1 rfl).s.rd jb2).2.2 ((F31.out.own 5 rfl).d.rd jb1).2.2 ((F31.out.own 5 rfl).s.rd jb2).2.2 rfl rfl rfl rfl).mono ?_
  rintro e w18 ⟨rfl, hb⟩
  have F32 := Lib.hid (F31.out.below hb)
  clear F31
  replace BB := Lib.hid (bl_then BB.out hb)
  clear hb
  have p1_0 : w18.cell? ⟨w13.heap.size, 0, none⟩ = some (.slice A3 (decA b.data.toList).length k3) := (F32.out.blk 2 rfl).cell 0
  have p1_1 : w18.cell? ⟨w13.heap.size, 1, none⟩ = some (.slice A4 (decL b.data.toList).length k4) := (F32.out.blk 2 rfl).cell 1
  have p2_0 : w18.cell? ⟨w15.heap.size, 0, none⟩ = some (.slice A5 (decA b.data.toList).length k5) := (F32.out.blk 0 rfl).cell 0
  have p2_1 : w18.cell? ⟨w15.heap.size, 1, none⟩ = some (.slice A6 (decL b.data.toList).length k6) := (F32.out.blk 0 rfl).cell 1
  have pw_0 : w18.cell? ⟨w11.heap.size, 0, none⟩ = some (.slice A1 (decA b.data.toList).length k1) := (F32.out.blk 4 rfl).cell 0
  have pw_1 : w18.cell? ⟨w11.heap.size, 1, none⟩ = some (.slice A2 (decL b.data.toList).length k2) := (F32.out.blk 4 rfl).cell 1
  go_wp2_with fail
  clear p1_0 p1_1 p2_0 p2_1 pw_0 pw_1
  have Bs : w7.heap.size ≤ w18.heap.size := BB.out.size
  have HO1 := Lib.hid (OwnS.base (B' := w7.heap.size) (F32.out.own 3 rfl) (by omega))
  have HO2 := Lib.hid (OwnS.base (B' := w7.heap.size) (F32.out.own 1 rfl) (by omega))
  have HO3 := Lib.hid (OwnS.base (B' := w7.heap.size) (F32.out.own 5 rfl) (by omega))
  refine (fresh_any w7.heap.size _ _ _ _ _ _ _ (decA b.data.toList) (decL b.data.toList) [] (fun _ => ([], [])) _ HO1.out HO2.out HO3.out (by have := HJ.out.1; omega) (by have := HJ.out.2; omega) HP.out.1 HP.out.2 (GR.Own.nil _ _ _) (by simp) (fun i hi => absurd hi (by simp)) Bs
    (ApS.of_lt (C := W14.heap.size) (fun k hk => by have := Rone2.out k hk; omega) Rtwo1.out)
    (ApS.symm (ApS.of_lt (C := W12.heap.size) (fun k hk => by have := Rwant2.out k hk; omega) Rone1.out))
    (fun x hx => by cases hx) (fun x hx => by cases hx) (fun x hx => by cases hx) (fun i j hi _ _ => absurd hi (by simp))).mono ?_
  rintro e w19 ⟨rfl, _, hc⟩
  go_wp2
  go_ret
  exact ⟨rfl, bl_then LW.out (Below.trans BW.out (Below.trans (BB.out.mono BW.out.size) (hc.below (Nat.le_trans BW.out.size Bs) (fun k hk => by
    rcases hk with hk | ⟨x, hx, _⟩
    · have := Rone1.out k hk
      have := BW.out.size
      omega
    · cases hx))))⟩
end Go.Proofs.Ytlmnmlehnigfdaa
