/- DERIVED. DvvAsks: the walk of the law. -/
import Derived.Test.YtlmnmlehnigfdaaDvRefBelow
import Derived.Test.YtlmnmlehnigfdaaDvTexts
import Derived.Test.YtlmnmlehnigfdaaDvRefVals
import Derived.Test.YtlmnmlehnigfdaaDvBelow
import Derived.Test.YtlmnmlehnigfdaaDvLent
import Derived.Test.YtlmnmlehnigfdaaDvKept
import Derived.Test.YtlmnmlehnigfdaaDvOver
import Derived.Test.YtlmnmlehnigfdaaDvFresh
import Derived.Test.YtlmnmlehnigfdaaDvHeap
import Derived.WalkMore
import Derived.Deep.Cut
import Derived.Deep.CutRange
namespace Go.Proofs.Ytlmnmlehnigfdaa
open Go.RowKit
set_option linter.unusedVariables false
set_option linter.unusedSimpArgs false

theorem dsame_at (A B C D : Option Addr) (c1 c2 c3 c4 n m n' m' : Nat) (a b : List Dot) (l k : List Sib) (r : Bool) (w : World) (ha : GR.Rd dotK w A a) (hl : GR.Rd sibK w B l) (hb : GR.Rd dotK w C b) (hm : GR.Rd sibK w D k) (h1 : n = a.length) (h2 : m = l.length) (h3 : n' = b.length) (h4 : m' = k.length) (hr : stEq a l b k = r) :
    Calls Try.prog 30 #[.agg #[.slice A n c1, .slice B m c2], .agg #[.slice C n' c3, .slice D m' c4]] w fun e w' => e = .returned (.bool r) ∧ Below w.heap.size w w' := by
  subst h1 h2 h3 h4 hr
  exact dvvSame_any A B C D c1 c2 c3 c4 a b l k w ha hl hb hm
theorem bel_at2 (A B C D : Option Addr) (c1 c2 c3 c4 n m n' m' : Nat) (a b : List Dot) (l k : List Sib) (r : Bool) (w : World) (ha : GR.Rd dotK w A a) (hl : GR.Rd sibK w B l) (hb : GR.Rd dotK w C b) (hm : GR.Rd sibK w D k) (h1 : n = a.length) (h2 : m = l.length) (h3 : n' = b.length) (h4 : m' = k.length) (hca : n ≤ c1) (hcb : n' ≤ c3)
    (na : ∀ d ∈ a, 0 ≤ d.n) (nl : ∀ x ∈ l, 0 ≤ x.d.n) (nb : ∀ d ∈ b, 0 ≤ d.n) (nm : ∀ x ∈ k, 0 ≤ x.d.n) (hr : belS a l b k = r) :
    Calls Try.prog 31 #[.agg #[.slice A n c1, .slice B m c2], .agg #[.slice C n' c3, .slice D m' c4]] w fun e w' => e = .returned (.bool r) ∧ Below w.heap.size w w' := by
  subst h1 h2 h3 h4 hr
  exact dvvBelow_any A B C D c1 c2 c3 c4 a b l k w ha hl hb hm hca hcb na nl nb nm
theorem valid_at (A B : Option Addr) (c1 c2 n m : Nat) (a : List Dot) (l : List Sib) (r : Bool) (w : World) (ha : GR.Rd dotK w A a) (hl : GR.Rd sibK w B l) (h1 : n = a.length) (h2 : m = l.length) (na : ∀ d ∈ a, 0 ≤ d.n) (nl : ∀ x ∈ l, 0 ≤ x.d.n) (hr : staB a l = r) :
    Calls Try.prog 26 #[.agg #[.slice A n c1, .slice B m c2]] w fun e w' => e = .returned (.bool r) ∧ Below w.heap.size w w' := by
  subst h1 h2 hr
  exact dvvValid_any A B c1 c2 a l w ha hl na nl
theorem rvalid_at (A B : Option Addr) (c1 c2 n m : Nat) (a : List Dot) (l : List Sib) (r : Bool) (w : World) (ha : GR.Rd dotK w A a) (hl : GR.Rd sibK w B l) (h1 : n = a.length) (h2 : m = l.length) (na : ∀ d ∈ a, 0 ≤ d.n) (nl : ∀ x ∈ l, 0 ≤ x.d.n) (hr : staB a l = r) :
    Calls Try.prog 29 #[.agg #[.slice A n c1, .slice B m c2]] w fun e w' => e = .returned (.bool r) ∧ Below w.heap.size w w' := by
  subst h1 h2 hr
  exact refSta_any A B c1 c2 a l w ha hl na nl

theorem vals_len (a : List Dot) (l : List Sib) : (valsA a l).length ≤ 64 := by
  unfold valsA
  split
  · rename_i h
    have h1 := (sta_ok h).2.1
    have := fold_len l []
    unfold valsS
    simp at this; omega
  · simp
theorem dvals_at (A B : Option Addr) (c d n m : Nat) (a : List Dot) (l : List Sib) (w : World) (ha : GR.Rd dotK w A a) (hl : GR.Rd sibK w B l) (h1 : n = a.length) (h2 : m = l.length) (na : ∀ d ∈ a, 0 ≤ d.n) (nl : ∀ x ∈ l, 0 ≤ x.d.n) :
    Calls Try.prog 28 #[.agg #[.slice A n c, .slice B m d]] w fun e w' => ∃ (C : Option Addr) (k : Nat), e = .returned (.slice C (valsA a l).length k) ∧ (valsA a l).length ≤ k ∧ GR.Own strK w' w.heap.size (.slice C (valsA a l).length k) (valsA a l) ∧ Below w.heap.size w w' := by
  subst h1 h2
  refine (dvvValues_any A B c d a l w ha hl na nl).mono ?_
  rintro e w' ⟨v, rfl, ho, hb⟩
  have := vals_len a l
  obtain ⟨C, k, rfl, h1, _⟩ := ho.rd' (by show (valsA a l).length * 16 ≤ _; omega)
  exact ⟨C, k, rfl, h1, ho, hb⟩
theorem rvals_at (A B : Option Addr) (c d n m : Nat) (a : List Dot) (l : List Sib) (w : World) (ha : GR.Rd dotK w A a) (hl : GR.Rd sibK w B l) (h1 : n = a.length) (h2 : m = l.length) (na : ∀ d ∈ a, 0 ≤ d.n) (nl : ∀ x ∈ l, 0 ≤ x.d.n) :
    Calls Try.prog 27 #[.agg #[.slice A n c, .slice B m d]] w fun e w' => ∃ (C : Option Addr) (k : Nat), e = .returned (.slice C (valsA a l).length k) ∧ (valsA a l).length ≤ k ∧ GR.Own strK w' w.heap.size (.slice C (valsA a l).length k) (valsA a l) ∧ Below w.heap.size w w' := by
  subst h1 h2
  refine (refValues_any A B c d a l w ha hl na nl).mono ?_
  rintro e w' ⟨v, rfl, ho, hb⟩
  have := vals_len a l
  obtain ⟨C, k, rfl, h1, _⟩ := ho.rd' (by show (valsA a l).length * 16 ≤ _; omega)
  exact ⟨C, k, rfl, h1, ho, hb⟩
theorem texts_self (A B : Option Addr) (c d n m : Nat) (L : List ByteArray) (w : World) (ha : GR.Rd strK w A L) (hb : GR.Rd strK w B L) (h1 : n = L.length) (h2 : m = L.length) :
    Calls Try.prog 33 #[.slice A n c, .slice B m d] w fun e w' => e = .returned (.bool true) ∧ Below w.heap.size w w' := by
  subst h1 h2
  refine (texts_any A B c d L L w ha hb).mono ?_
  rintro e w' ⟨rfl, hb⟩
  exact ⟨by simp, hb⟩
theorem rsame_at (A B C D : Option Addr) (c1 c2 c3 c4 n m n' m' : Nat) (a b : List Dot) (l k : List Sib) (r : Bool) (w : World) (ha : GR.Rd dotK w A a) (hl : GR.Rd sibK w B l) (hb : GR.Rd dotK w C b) (hm : GR.Rd sibK w D k) (h1 : n = a.length) (h2 : m = l.length) (h3 : n' = b.length) (h4 : m' = k.length) (hr : stEq a l b k = r) :
    Calls Try.prog 15 #[.agg #[.slice A n c1, .slice B m c2], .agg #[.slice C n' c3, .slice D m' c4]] w fun e w' => e = .returned (.bool r) ∧ Below w.heap.size w w' := by
  subst h1 h2 h3 h4 hr
  exact refSame_any A B C D c1 c2 c3 c4 a b l k w ha hl hb hm
theorem rbel_at (A B C D : Option Addr) (c1 c2 c3 c4 n m n' m' : Nat) (a b : List Dot) (l k : List Sib) (r : Bool) (w : World) (ha : GR.Rd dotK w A a) (hl : GR.Rd sibK w B l) (hb : GR.Rd dotK w C b) (hm : GR.Rd sibK w D k) (h1 : n = a.length) (h2 : m = l.length) (h3 : n' = b.length) (h4 : m' = k.length)
    (na : ∀ d ∈ a, 0 ≤ d.n) (nl : ∀ x ∈ l, 0 ≤ x.d.n) (nb : ∀ d ∈ b, 0 ≤ d.n) (nm : ∀ x ∈ k, 0 ≤ x.d.n) (hr : belS a l b k = r) :
    Calls Try.prog 32 #[.agg #[.slice A n c1, .slice B m c2], .agg #[.slice C n' c3, .slice D m' c4]] w fun e w' => e = .returned (.bool r) ∧ Below w.heap.size w w' := by
  subst h1 h2 h3 h4 hr
  exact refSBelow_any A B C D c1 c2 c3 c4 a b l k w ha hl hb hm na nl nb nm

set_option maxRecDepth 100000 in
set_option maxHeartbeats 25600000 in
theorem asks_walk (A B C D : Option Addr) (c d c2 d2 : Nat) (a b : List Dot) (l m : List Sib) (w : World) (ha : GR.Rd dotK w A a) (hl : GR.Rd sibK w B l) (hb : GR.Rd dotK w C b) (hm : GR.Rd sibK w D m) (sa : a.length * 16 ≤ 140737488351232) (sl : l.length * 40 ≤ 140737488351232) (sb : b.length * 16 ≤ 140737488351232) (sm : m.length * 40 ≤ 140737488351232)
    (na : ∀ d ∈ a, 0 ≤ d.n) (nl : ∀ x ∈ l, 0 ≤ x.d.n) (nb : ∀ d ∈ b, 0 ≤ d.n) (nm : ∀ x ∈ m, 0 ≤ x.d.n) :
    Calls Try.prog 7 #[.agg #[.slice A a.length c, .slice B l.length d], .agg #[.slice C b.length c2, .slice D m.length d2]] w fun e w' => e = .returned (.bool true) ∧ Below w.heap.size w w' := by
  obtain ⟨j0, hj0, jz0, jz1, jz2⟩ := info_parts str_info
  have bma : a.length * 16 ≤ 140737488355328 := by omega
  have bml : l.length * 40 ≤ 140737488355328 := by omega
  have bmb : b.length * 16 ≤ 140737488355328 := by omega
  have bmm : m.length * 40 ≤ 140737488355328 := by omega
  have VL := Lib.hid (vals_len a l)
  have bv : (valsA a l).length * 16 ≤ 140737488355328 := by have := VL.out; omega
  have HA := Lib.hid ha
  have HL := Lib.hid hl
  have HB := Lib.hid hb
  have HM := Lib.hid hm
  have NA := Lib.hid na
  have NL := Lib.hid nl
  have NB := Lib.hid nb
  have NM := Lib.hid nm
  clear ha hl hb hm na nl nb nm
  go_enter Try.func7, Try.ntmps7
  go_wp2_with fail
  obtain ⟨W1, hW1⟩ : ∃ W1 : World, W1 = (w.alloc (.cells #[.slice A a.length c, .slice B l.length d] 25)).alloc (.cells #[.slice C b.length c2, .slice D m.length d2] 25) := ⟨_, rfl⟩
  rw [← hW1]
  have LW : Hid (Below w.heap.size w W1) := Lib.hid (by rw [hW1]; exact (by repeat (first | exact Below.refl _ _ | refine bl_drewN ?_ _ | refine bl_drew ?_ | refine bl_alloc ?_ _)))
  have XA : Hid (GR.Blk W1 w.heap.size 25 #[.slice A a.length c, .slice B l.length d]) := Lib.hid (by rw [hW1]; exact (GR.Blk.new _ _ _).alloc _)
  have XB : Hid (GR.Blk W1 (w.heap.size + 1) 25 #[.slice C b.length c2, .slice D m.length d2]) := Lib.hid (by rw [hW1]; exact new_at _ _ _ (by simp))
  clear hW1
  have F1 := Lib.hid (HS.nil W1)
  have F2 := Lib.hid (HS.addB F1.out (g := w.heap.size) (t := 25) (cs := #[.slice A a.length c, .slice B l.length d]) (XA.out))
  clear F1
  have F3 := Lib.hid (HS.addB F2.out (g := w.heap.size + 1) (t := 25) (cs := #[.slice C b.length c2, .slice D m.length d2]) (XB.out))
  clear F2
  have F4 := Lib.hid (F3.out.addR (HA.out.below LW.out))
  clear F3
  have F5 := Lib.hid (F4.out.addR (HL.out.below LW.out))
  clear F4
  have F6 := Lib.hid (F5.out.addR (HB.out.below LW.out))
  clear F5
  have F7 := Lib.hid (F6.out.addR (HM.out.below LW.out))
  clear F6
  clear XA XB
  refine (lent_any A B c d a l _ (F7.out.rd 3 rfl) (F7.out.rd 2 rfl) sa sl).mono ?_
  rintro e w2 ⟨g1, c1, g2, c3, rfl, ho, hb⟩
  have F8 := Lib.hid (F7.out.below hb)
  clear F7
  have F9 := Lib.hid (F8.out.addO (ho))
  clear F8
  have F10 := Lib.hid (F9.out.addO (⟨GR.Own.take ho.d, GR.Own.take ho.s⟩))
  clear F9
  have RX1 := Lib.hid (show ∀ k, rows2 (.slice (some ⟨g1, 0, none⟩) a.length c1) (.slice (some ⟨g2, 0, none⟩) l.length c3) k → W1.heap.size ≤ k from ho.ge)
  have RX2 := Lib.hid (show ∀ k, rows2 (.slice (some ⟨g1, 0, none⟩) a.length c1) (.slice (some ⟨g2, 0, none⟩) l.length c3) k → k < w2.heap.size from ho.lt)
  have BB := Lib.hid hb
  have S2 : W1.heap.size ≤ w2.heap.size := hb.size
  clear ho hb
  have pb_0 : w2.cell? ⟨w.heap.size + 1, 0, none⟩ = some (.slice C b.length c2) := (F10.out.blk 6 rfl).cell 0
  have pb_1 : w2.cell? ⟨w.heap.size + 1, 1, none⟩ = some (.slice D m.length d2) := (F10.out.blk 6 rfl).cell 1
  have pb_lt : w.heap.size + 1 < w2.heap.size := (F10.out.blk 6 rfl).lt
  go_wp2_with fail
  obtain ⟨W3, hW3⟩ : ∃ W : World, W = w2.alloc (.cells #[.slice (some ⟨g1, 0, none⟩) a.length c1, .slice (some ⟨g2, 0, none⟩) l.length c3] 25) := ⟨_, rfl⟩
  rw [← hW3]
  have LW3 : Hid (Below w2.heap.size w2 W3) := Lib.hid (by rw [hW3]; exact (by repeat (first | exact Below.refl _ _ | refine bl_drewN ?_ _ | refine bl_drew ?_ | refine bl_alloc ?_ _)))
  have XW3 : Hid (GR.Blk W3 w2.heap.size 25 #[.slice (some ⟨g1, 0, none⟩) a.length c1, .slice (some ⟨g2, 0, none⟩) l.length c3]) := Lib.hid (by rw [hW3]; exact GR.Blk.new _ _ _)
  have SW3 : w2.heap.size < W3.heap.size := XW3.out.lt
  clear hW3
  clear pb_0 pb_1 pb_lt
  have F11 := Lib.hid (F10.out.below LW3.out)
  clear F10
  have F12 := Lib.hid (HS.addB F11.out (g := w2.heap.size) (t := 25) (cs := #[.slice (some ⟨g1, 0, none⟩) a.length c1, .slice (some ⟨g2, 0, none⟩) l.length c3]) (XW3.out))
  clear F11
  replace BB := Lib.hid (bl_then BB.out LW3.out)
  refine (lent_any C D c2 d2 b m _ (F12.out.rd 4 rfl) (F12.out.rd 3 rfl) sb sm).mono ?_
  rintro e w4 ⟨g3, c4, g4, c5, rfl, ho, hb⟩
  have F13 := Lib.hid (F12.out.below hb)
  clear F12
  have F14 := Lib.hid (F13.out.addO (ho))
  clear F13
  have F15 := Lib.hid (F14.out.addO (⟨GR.Own.take ho.d, GR.Own.take ho.s⟩))
  clear F14
  have RY1 := Lib.hid (show ∀ k, rows2 (.slice (some ⟨g3, 0, none⟩) b.length c4) (.slice (some ⟨g4, 0, none⟩) m.length c5) k → W3.heap.size ≤ k from ho.ge)
  have RY2 := Lib.hid (show ∀ k, rows2 (.slice (some ⟨g3, 0, none⟩) b.length c4) (.slice (some ⟨g4, 0, none⟩) m.length c5) k → k < w4.heap.size from ho.lt)
  have S4 : W3.heap.size ≤ w4.heap.size := hb.size
  replace BB := Lib.hid (bl_then BB.out hb)
  clear ho hb
  have pa_0 : w4.cell? ⟨w.heap.size, 0, none⟩ = some (.slice A a.length c) := (F15.out.blk 10 rfl).cell 0
  have pa_1 : w4.cell? ⟨w.heap.size, 1, none⟩ = some (.slice B l.length d) := (F15.out.blk 10 rfl).cell 1
  have pa_lt : w.heap.size < w4.heap.size := (F15.out.blk 10 rfl).lt
  go_wp2_with fail
  obtain ⟨W5, hW5⟩ : ∃ W : World, W = w4.alloc (.cells #[.slice (some ⟨g3, 0, none⟩) b.length c4, .slice (some ⟨g4, 0, none⟩) m.length c5] 25) := ⟨_, rfl⟩
  rw [← hW5]
  have LW5 : Hid (Below w4.heap.size w4 W5) := Lib.hid (by rw [hW5]; exact (by repeat (first | exact Below.refl _ _ | refine bl_drewN ?_ _ | refine bl_drew ?_ | refine bl_alloc ?_ _)))
  have XW5 : Hid (GR.Blk W5 w4.heap.size 25 #[.slice (some ⟨g3, 0, none⟩) b.length c4, .slice (some ⟨g4, 0, none⟩) m.length c5]) := Lib.hid (by rw [hW5]; exact GR.Blk.new _ _ _)
  have SW5 : w4.heap.size < W5.heap.size := XW5.out.lt
  clear hW5
  clear pa_0 pa_1 pa_lt
  have F16 := Lib.hid (F15.out.below LW5.out)
  clear F15
  have F17 := Lib.hid (HS.addB F16.out (g := w4.heap.size) (t := 25) (cs := #[.slice (some ⟨g3, 0, none⟩) b.length c4, .slice (some ⟨g4, 0, none⟩) m.length c5]) (XW5.out))
  clear F16
  replace BB := Lib.hid (bl_then BB.out LW5.out)
  have pa_0 : W5.cell? ⟨w.heap.size, 0, none⟩ = some (.slice A a.length c) := (F17.out.blk 11 rfl).cell 0
  have pa_1 : W5.cell? ⟨w.heap.size, 1, none⟩ = some (.slice B l.length d) := (F17.out.blk 11 rfl).cell 1
  have pa_lt : w.heap.size < W5.heap.size := (F17.out.blk 11 rfl).lt
  clear pa_0 pa_1 pa_lt
  refine (rvals_at A B c d _ _ a l _ (F17.out.rd 9 rfl) (F17.out.rd 8 rfl) rfl rfl NA.out NL.out).mono ?_
  rintro e w6 ⟨Vw, kw, rfl, hkw, ho, hb⟩
  have F18 := Lib.hid (F17.out.below hb)
  clear F17
  have F19 := Lib.hid (F18.out.addW (ho))
  clear F18
  have Rw1 := Lib.hid (show ∀ b, Value.ownBlock (.slice Vw (valsA a l).length kw) = some b → _ ≤ b from fun b hb => (ho.lt b hb).1)
  have Rw2 := Lib.hid (show ∀ b, Value.ownBlock (.slice Vw (valsA a l).length kw) = some b → b < w6.heap.size from fun b hb => (ho.lt b hb).2)
  have Sw6 := hb.size
  replace BB := Lib.hid (bl_then BB.out hb)
  clear ho hb
  have px_0 : w6.cell? ⟨w2.heap.size, 0, none⟩ = some (.slice (some ⟨g1, 0, none⟩) a.length c1) := (F19.out.blk 4 rfl).cell 0
  have px_1 : w6.cell? ⟨w2.heap.size, 1, none⟩ = some (.slice (some ⟨g2, 0, none⟩) l.length c3) := (F19.out.blk 4 rfl).cell 1
  go_wp2_with fail
  clear px_0 px_1
  refine (dvals_at _ _ _ _ _ _ a l _ (GR.Own.rd ((F19.out.own 5 rfl).d) bma).2.2 (GR.Own.rd ((F19.out.own 5 rfl).s) bml).2.2 rfl rfl NA.out NL.out).mono ?_
  rintro e w7 ⟨Vl, kl, rfl, hkl, ho, hb⟩
  have F20 := Lib.hid (F19.out.below hb)
  clear F19
  have F21 := Lib.hid (F20.out.addW (ho))
  clear F20
  have Rl1 := Lib.hid (show ∀ b, Value.ownBlock (.slice Vl (valsA a l).length kl) = some b → _ ≤ b from fun b hb => (ho.lt b hb).1)
  have Rl2 := Lib.hid (show ∀ b, Value.ownBlock (.slice Vl (valsA a l).length kl) = some b → b < w7.heap.size from fun b hb => (ho.lt b hb).2)
  have Sw7 := hb.size
  replace BB := Lib.hid (bl_then BB.out hb)
  clear ho hb
  have px_0 : w7.cell? ⟨w2.heap.size, 0, none⟩ = some (.slice (some ⟨g1, 0, none⟩) a.length c1) := (F21.out.blk 5 rfl).cell 0
  have px_1 : w7.cell? ⟨w2.heap.size, 1, none⟩ = some (.slice (some ⟨g2, 0, none⟩) l.length c3) := (F21.out.blk 5 rfl).cell 1
  have py_0 : w7.cell? ⟨w4.heap.size, 0, none⟩ = some (.slice (some ⟨g3, 0, none⟩) b.length c4) := (F21.out.blk 2 rfl).cell 0
  have py_1 : w7.cell? ⟨w4.heap.size, 1, none⟩ = some (.slice (some ⟨g4, 0, none⟩) m.length c5) := (F21.out.blk 2 rfl).cell 1
  have pa_0 : w7.cell? ⟨w.heap.size, 0, none⟩ = some (.slice A a.length c) := (F21.out.blk 13 rfl).cell 0
  have pa_1 : w7.cell? ⟨w.heap.size, 1, none⟩ = some (.slice B l.length d) := (F21.out.blk 13 rfl).cell 1
  have pb_0 : w7.cell? ⟨w.heap.size + 1, 0, none⟩ = some (.slice C b.length c2) := (F21.out.blk 12 rfl).cell 0
  have pb_1 : w7.cell? ⟨w.heap.size + 1, 1, none⟩ = some (.slice D m.length d2) := (F21.out.blk 12 rfl).cell 1
  have opx0 := over_cell px_0
  have opx1 := over_cell px_1
  have opy0 := over_cell py_0
  have opy1 := over_cell py_1
  have opa0 := over_cell pa_0
  have opa1 := over_cell pa_1
  have opb0 := over_cell pb_0
  have opb1 := over_cell pb_1
  clear px_0 px_1 py_0 py_1 pa_0 pa_1 pb_0 pb_1
  obtain ⟨r1, hr1⟩ : ∃ r, staB a l = r := ⟨_, rfl⟩
  obtain ⟨r2, hr2⟩ : ∃ r, stEq a l b m = r := ⟨_, rfl⟩
  obtain ⟨r3, hr3⟩ : ∃ r, belS a l b m = r := ⟨_, rfl⟩
  obtain ⟨r4, hr4⟩ : ∃ r, belS b m a l = r := ⟨_, rfl⟩
  have HR1 := Lib.hid hr1
  have HR2 := Lib.hid hr2
  have HR3 := Lib.hid hr3
  have HR4 := Lib.hid hr4
  clear hr1 hr2 hr3 hr4
  have q1 : (r1 != r1) = false := by simp
  have q2 : (r2 != r2) = false := by simp
  have q3 : (r3 != r3) = false := by simp
  have q4 : (r4 != r4) = false := by simp
  go_wp2
  refine over_region (W := w7) (by kernel_rfl) (by kernel_rfl) (by repeat (first | exact Below.refl _ _ | refine bl_drewN ?_ _ | refine bl_drew ?_ | refine bl_alloc ?_ _)) ?_
  repeat (go_big_quiet_step (first | (refine over_of (valid_at _ _ _ _ _ _ a l r1 _ (GR.Rd.below (GR.Own.rd ((F21.out.own 6 rfl).d) bma).2.2 (Over.h _)) (GR.Rd.below (GR.Own.rd ((F21.out.own 6 rfl).s) bml).2.2 (Over.h _)) rfl rfl NA.out NL.out HR1.out)) | (refine over_of (rvalid_at _ _ _ _ _ _ a l r1 _ (GR.Rd.below (F21.out.rd 11 rfl) (Over.h _)) (GR.Rd.below (F21.out.rd 10 rfl) (Over.h _)) rfl rfl NA.out NL.out HR1.out)) | (refine over_of (dsame_at _ _ _ _ _ _ _ _ _ _ _ _ a b l m r2 _ (GR.Rd.below (GR.Own.rd ((F21.out.own 6 rfl).d) bma).2.2 (Over.h _)) (GR.Rd.below (GR.Own.rd ((F21.out.own 6 rfl).s) bml).2.2 (Over.h _)) (GR.Rd.below (GR.Own.rd ((F21.out.own 3 rfl).d) bmb).2.2 (Over.h _)) (GR.Rd.below (GR.Own.rd ((F21.out.own 3 rfl).s) bmm).2.2 (Over.h _)) rfl rfl rfl rfl HR2.out)) | (refine over_of (rsame_at _ _ _ _ _ _ _ _ _ _ _ _ a b l m r2 _ (GR.Rd.below (F21.out.rd 11 rfl) (Over.h _)) (GR.Rd.below (F21.out.rd 10 rfl) (Over.h _)) (GR.Rd.below (F21.out.rd 9 rfl) (Over.h _)) (GR.Rd.below (F21.out.rd 8 rfl) (Over.h _)) rfl rfl rfl rfl HR2.out)) | (refine over_of (bel_at2 _ _ _ _ _ _ _ _ _ _ _ _ a b l m r3 _ (GR.Rd.below (GR.Own.rd ((F21.out.own 6 rfl).d) bma).2.2 (Over.h _)) (GR.Rd.below (GR.Own.rd ((F21.out.own 6 rfl).s) bml).2.2 (Over.h _)) (GR.Rd.below (GR.Own.rd ((F21.out.own 3 rfl).d) bmb).2.2 (Over.h _)) (GR.Rd.below (GR.Own.rd ((F21.out.own 3 rfl).s) bmm).2.2 (Over.h _)) rfl rfl rfl rfl (GR.Own.rd ((F21.out.own 6 rfl).d) bma).2.1 (GR.Own.rd ((F21.out.own 3 rfl).d) bmb).2.1 NA.out NL.out NB.out NM.out HR3.out)) | (refine over_of (rbel_at _ _ _ _ _ _ _ _ _ _ _ _ a b l m r3 _ (GR.Rd.below (F21.out.rd 11 rfl) (Over.h _)) (GR.Rd.below (F21.out.rd 10 rfl) (Over.h _)) (GR.Rd.below (F21.out.rd 9 rfl) (Over.h _)) (GR.Rd.below (F21.out.rd 8 rfl) (Over.h _)) rfl rfl rfl rfl NA.out NL.out NB.out NM.out HR3.out)) | (refine over_of (bel_at2 _ _ _ _ _ _ _ _ _ _ _ _ b a m l r4 _ (GR.Rd.below (GR.Own.rd ((F21.out.own 3 rfl).d) bmb).2.2 (Over.h _)) (GR.Rd.below (GR.Own.rd ((F21.out.own 3 rfl).s) bmm).2.2 (Over.h _)) (GR.Rd.below (GR.Own.rd ((F21.out.own 6 rfl).d) bma).2.2 (Over.h _)) (GR.Rd.below (GR.Own.rd ((F21.out.own 6 rfl).s) bml).2.2 (Over.h _)) rfl rfl rfl rfl (GR.Own.rd ((F21.out.own 3 rfl).d) bmb).2.1 (GR.Own.rd ((F21.out.own 6 rfl).d) bma).2.1 NB.out NM.out NA.out NL.out HR4.out)) | (refine over_of (rbel_at _ _ _ _ _ _ _ _ _ _ _ _ b a m l r4 _ (GR.Rd.below (F21.out.rd 9 rfl) (Over.h _)) (GR.Rd.below (F21.out.rd 8 rfl) (Over.h _)) (GR.Rd.below (F21.out.rd 11 rfl) (Over.h _)) (GR.Rd.below (F21.out.rd 10 rfl) (Over.h _)) rfl rfl rfl rfl NB.out NM.out NA.out NL.out HR4.out))))
  refine wpQuiet_nil ?_
  intro _ hx_
  obtain ⟨x_, hx_⟩ := hx_
  subst hx_
  obtain ⟨w8, hb8⟩ := x_
  dsimp only
  have F22 := Lib.hid (F21.out.below hb8)
  clear F21
  have Sw8 := hb8.size
  replace BB := Lib.hid (bl_then BB.out hb8)
  clear hb8 q1 q2 q3 q4 HR1 HR2 HR3 HR4 opx0 opx1 opy0 opy1 opa0 opa1 opb0 opb1
  go_wp2_with fail
  refine (texts_self _ _ _ _ _ _ (valsA a l) _ (GR.Own.rd (F22.out.ow 0 rfl) bv).2.2 (GR.Own.rd (F22.out.ow 1 rfl) bv).2.2 rfl rfl).mono ?_
  rintro e w9 ⟨rfl, hb⟩
  have F23 := Lib.hid (F22.out.below hb)
  clear F22
  have Sw9 := hb.size
  replace BB := Lib.hid (bl_then BB.out hb)
  clear hb
  have px_0 : w9.cell? ⟨w2.heap.size, 0, none⟩ = some (.slice (some ⟨g1, 0, none⟩) a.length c1) := (F23.out.blk 5 rfl).cell 0
  have px_1 : w9.cell? ⟨w2.heap.size, 1, none⟩ = some (.slice (some ⟨g2, 0, none⟩) l.length c3) := (F23.out.blk 5 rfl).cell 1
  have pa_0 : w9.cell? ⟨w.heap.size, 0, none⟩ = some (.slice A a.length c) := (F23.out.blk 13 rfl).cell 0
  have pa_1 : w9.cell? ⟨w.heap.size, 1, none⟩ = some (.slice B l.length d) := (F23.out.blk 13 rfl).cell 1
  go_wp2_with fail
  clear px_0 px_1 pa_0 pa_1
  refine (kept_any g1 c1 g2 c3 _ A B c d a l _ (F23.out.rd 11 rfl) (F23.out.rd 10 rfl) sa sl (F23.out.own 7 rfl)).mono ?_
  rintro e w10 ⟨rfl, hb⟩
  have F24 := Lib.hid (F23.out.below hb)
  clear F23
  have Sw10 := hb.size
  replace BB := Lib.hid (bl_then BB.out hb)
  clear hb
  have py_0 : w10.cell? ⟨w4.heap.size, 0, none⟩ = some (.slice (some ⟨g3, 0, none⟩) b.length c4) := (F24.out.blk 2 rfl).cell 0
  have py_1 : w10.cell? ⟨w4.heap.size, 1, none⟩ = some (.slice (some ⟨g4, 0, none⟩) m.length c5) := (F24.out.blk 2 rfl).cell 1
  have pb_0 : w10.cell? ⟨w.heap.size + 1, 0, none⟩ = some (.slice C b.length c2) := (F24.out.blk 12 rfl).cell 0
  have pb_1 : w10.cell? ⟨w.heap.size + 1, 1, none⟩ = some (.slice D m.length d2) := (F24.out.blk 12 rfl).cell 1
  go_wp2_with fail
  clear py_0 py_1 pb_0 pb_1
  refine (kept_any g3 c4 g4 c5 _ C D c2 d2 b m _ (F24.out.rd 9 rfl) (F24.out.rd 8 rfl) sb sm (F24.out.own 4 rfl)).mono ?_
  rintro e w11 ⟨rfl, hb⟩
  have F25 := Lib.hid (F24.out.below hb)
  clear F24
  have Sw11 := hb.size
  replace BB := Lib.hid (bl_then BB.out hb)
  clear hb
  have px_0 : w11.cell? ⟨w2.heap.size, 0, none⟩ = some (.slice (some ⟨g1, 0, none⟩) a.length c1) := (F25.out.blk 5 rfl).cell 0
  have px_1 : w11.cell? ⟨w2.heap.size, 1, none⟩ = some (.slice (some ⟨g2, 0, none⟩) l.length c3) := (F25.out.blk 5 rfl).cell 1
  go_wp2_with fail
  clear px_0 px_1
  refine (dvals_at _ _ _ _ _ _ a l _ (GR.Own.rd ((F25.out.own 6 rfl).d) bma).2.2 (GR.Own.rd ((F25.out.own 6 rfl).s) bml).2.2 rfl rfl NA.out NL.out).mono ?_
  rintro e w12 ⟨Vm, km, rfl, hkm, ho, hb⟩
  have F26 := Lib.hid (F25.out.below hb)
  clear F25
  have F27 := Lib.hid (F26.out.addW (ho))
  clear F26
  have Rm1 := Lib.hid (show ∀ b, Value.ownBlock (.slice Vm (valsA a l).length km) = some b → _ ≤ b from fun b hb => (ho.lt b hb).1)
  have Rm2 := Lib.hid (show ∀ b, Value.ownBlock (.slice Vm (valsA a l).length km) = some b → b < w12.heap.size from fun b hb => (ho.lt b hb).2)
  have Sw12 := hb.size
  replace BB := Lib.hid (bl_then BB.out hb)
  clear ho hb
  have S6 : W1.heap.size ≤ w6.heap.size := by omega
  have S12 : w7.heap.size ≤ w11.heap.size := by omega
  have S13 : w6.heap.size ≤ w7.heap.size := Sw7
  have S14 : w11.heap.size ≤ w12.heap.size := Sw12
  obtain ⟨S, hS⟩ : ∃ S : Nat → Prop, S = fun k => w6.heap.size ≤ k ∧ k < w7.heap.size := ⟨_, rfl⟩
  have HS1 := Lib.hid (show ∀ k, S k → w6.heap.size ≤ k ∧ k < w7.heap.size from fun k h => by rw [hS] at h; exact h)
  have HS2 := Lib.hid (show ∀ k, Value.ownBlock (.slice Vl (valsA a l).length kl) = some k → S k from fun k h => by rw [hS]; exact ⟨Rl1.out k h, Rl2.out k h⟩)
  have HN := VL.out
  have OL := Lib.hid ((F27.out.ow 1 rfl))
  clear hS Rl1 Rl2
  go_wp2
  go_loopw [10] (fun ii w' => ∃ (i : Nat) (L' : List ByteArray), ii = .int .i64 i ∧ i ≤ (valsA a l).length ∧ Hid (L'.length = (valsA a l).length) ∧ Hid (GR.Own strK w' w6.heap.size (.slice Vl (valsA a l).length kl) L') ∧ Hid (Chg S w12 w')) (fun ii _ => (valsA a l).length - (intOf ii).toNat)
  case atStart => exact ⟨0, _, rfl, Nat.zero_le _, Lib.hid rfl, OL, Lib.hid (Chg.refl _ _)⟩
  case round =>
    obtain ⟨i, L', rfl, hi, hL', ho, hc⟩ := hrel
    by_cases hlt : i < (valsA a l).length
    · have i0 : (0 : Int) ≤ (i : Int) := by omega
      have i1 : (i : Int) < ((valsA a l).length : Int) := by omega
      obtain ⟨gl, capl, el, _, _⟩ := own_lit ho.out (valsA a l).length hL'.out (by omega)
      injection el with e1 _ e2
      subst e1 e2
      have hLi : i < L'.length := by rw [hL'.out]; exact hlt
      obtain ⟨x0, x1⟩ := ownv_cell ho.out (List.getElem?_eq_getElem hLi)
      have O2 := Lib.hid (ownv_set ho.out i ⟨#[115, 112, 111, 105, 108, 116]⟩)
      have C2 := Lib.hid (hc.out.then (chg_set (w := wr) i (.string ⟨#[115, 112, 111, 105, 108, 116]⟩) (.inl (HS2.out gl rfl))))
      go_wp2
      go_roundw
      case rel => exact ⟨i + 1, _, by go_num, by omega, Lib.hid (by rw [List.length_set]; exact hL'.out), O2, C2⟩
      case measure => simp [intOf]; omega
    · obtain rfl : i = (valsA a l).length := by omega
      clear OL hlt
      go_wp2
      go_loopw [8, 11] (fun v0 kk w' => ∃ (k : Nat) (v : Value) (M : List ByteArray), v = v0 ∧ kk = .int .i64 k ∧ k ≤ 70 ∧ Hid (M.length = (valsA a l).length + k) ∧ Hid (GR.Own strK w' w6.heap.size v M) ∧ Hid (Chg S w12 w') ∧ Hid (∀ b, b < w12.heap.size → v.ownBlock = some b → S b)) (fun _ kk _ => 70 - (intOf kk).toNat)
      case atStart => exact ⟨0, _, L', rfl, rfl, Nat.zero_le _, hL', ho, hc, Lib.hid (fun b _ h => HS2.out b h)⟩
      case round =>
        clear ho hL' hc
        obtain ⟨k, v, M, rfl, rfl, hk, hM, ho, hc, hr⟩ := hrel
        have hsz : w12.heap.size ≤ wr.heap.size := hc.out.size
        by_cases hlt : k < 70
        · have hBr : w6.heap.size ≤ wr.heap.size := by omega
          go_wp2_with (
            at_builtin
            refine GR.app_all (K := strK) rfl (.tmp 85) (.tmp 86) _ rfl Try.underlying49 hj0 jz0 jz1 jz2 rfl w6.heap.size v M rfl (ho.out.alloc _) _ 1 1 [(⟨#[98, 101, 104, 105, 110, 100]⟩ : ByteArray)] rfl rfl (GR.rd_new (K := strK) (⟨#[98, 101, 104, 105, 110, 100]⟩ : ByteArray) rfl (by show 16 ≤ 140737488355328; omega)) (by rw [hM.out]; show ((valsA a l).length + k + 1) * 16 ≤ _; omega) (Nat.le_trans hBr (by simp)) ?_
            intro v3 w3 ho3 hg3 hat3
            have G3 : Hid (Chg (fun b => v.ownBlock = some b) wr w3) := Lib.hid ((chg_bl (by repeat (first | exact Below.refl _ _ | refine bl_drewN ?_ _ | refine bl_drew ?_ | refine bl_alloc ?_ _))).then (chg_grown hg3 (fun b hb _ => hb)))
            have HO3 := Lib.hid ho3
            have HC3 := Lib.hid (hc.out.trans G3.out (fun i hi h => hr.out i hi h))
            have HR3 : Hid (∀ b, b < w12.heap.size → v3.ownBlock = some b → S b) := Lib.hid (fun b hb h => by
              rcases hat3 with h1 | h1
              · exact hr.out b hb (by rw [← h1]; exact h)
              · rw [h1] at h; cases h; exact absurd hb (by simp; omega))
            clear ho3 hg3 hat3)
          go_roundw
          case rel => exact ⟨k + 1, v3, _, rfl, by go_num, by omega, Lib.hid (by rw [List.length_append, hM.out]; rfl), HO3, HC3, HR3⟩
          case measure => simp [intOf]; omega
        · obtain rfl : k = 70 := by omega
          have HC := Lib.hid hc.out
          clear ho hM hr hc hk hlt
          have Bpx : Hid (GR.Blk wr (w2.heap.size) 25 #[.slice (some ⟨g1, 0, none⟩) a.length c1, .slice (some ⟨g2, 0, none⟩) l.length c3]) := Lib.hid (blk_chg (F27.out.blk 6 rfl) HC.out (fun h => by have := HS1.out _ h; omega))
          have Bpy : Hid (GR.Blk wr (w4.heap.size) 25 #[.slice (some ⟨g3, 0, none⟩) b.length c4, .slice (some ⟨g4, 0, none⟩) m.length c5]) := Lib.hid (blk_chg (F27.out.blk 3 rfl) HC.out (fun h => by have := HS1.out _ h; omega))
          have Ox : Hid (OwnS wr W1.heap.size (.slice (some ⟨g1, 0, none⟩) a.length c1) (.slice (some ⟨g2, 0, none⟩) l.length c3) a l) := Lib.hid ⟨own_chg ((F27.out.own 7 rfl).d) HC.out (fun k hk h => by have h1 := HS1.out k h; have h2 := RX2.out k (.inl hk); omega), own_chg ((F27.out.own 7 rfl).s) HC.out (fun k hk h => by have h1 := HS1.out k h; have h2 := RX2.out k (.inr hk); omega)⟩
          have Oy : Hid (OwnS wr W3.heap.size (.slice (some ⟨g3, 0, none⟩) b.length c4) (.slice (some ⟨g4, 0, none⟩) m.length c5) b m) := Lib.hid ⟨own_chg ((F27.out.own 4 rfl).d) HC.out (fun k hk h => by have h1 := HS1.out k h; have h2 := RY2.out k (.inl hk); omega), own_chg ((F27.out.own 4 rfl).s) HC.out (fun k hk h => by have h1 := HS1.out k h; have h2 := RY2.out k (.inr hk); omega)⟩
          have Ow := Lib.hid (own_chg (F27.out.ow 2 rfl) HC.out (fun k hk h => by have h1 := HS1.out k h; have h2 := Rw2.out k hk; omega))
          have Om := Lib.hid (own_chg (F27.out.ow 0 rfl) HC.out (fun k hk h => by have h1 := HS1.out k h; have h2 := Rm1.out k hk; omega))
          have BB2 := Lib.hid (Below.trans BB.out (HC.out.below (by omega) (fun k h => by have := HS1.out k h; omega)))
          have BB := BB2
          clear BB2 HC HS2
          have F28 := Lib.hid (HS.nil wr)
          have F29 := Lib.hid (HS.addB F28.out (g := w2.heap.size) (t := 25) (cs := #[.slice (some ⟨g1, 0, none⟩) a.length c1, .slice (some ⟨g2, 0, none⟩) l.length c3]) (Bpx.out))
          clear F28
          have F30 := Lib.hid (HS.addB F29.out (g := w4.heap.size) (t := 25) (cs := #[.slice (some ⟨g3, 0, none⟩) b.length c4, .slice (some ⟨g4, 0, none⟩) m.length c5]) (Bpy.out))
          clear F29
          have F31 := Lib.hid (F30.out.addO (Ox.out))
          clear F30
          have F32 := Lib.hid (F31.out.addO (Oy.out))
          clear F31
          have F33 := Lib.hid (F32.out.addW (Ow.out))
          clear F32
          have F34 := Lib.hid (F33.out.addW (Om.out))
          clear F33
          clear Bpx Bpy Ox Oy Ow Om
          go_wp2_with fail
          refine (texts_self _ _ _ _ _ _ (valsA a l) _ (GR.Own.rd (F34.out.ow 0 rfl) bv).2.2 (GR.Own.rd (F34.out.ow 1 rfl) bv).2.2 rfl rfl).mono ?_
          rintro e w13 ⟨rfl, hb⟩
          have F35 := Lib.hid (F34.out.below hb)
          clear F34
          have Sw13 := hb.size
          replace BB := Lib.hid (bl_then BB.out hb)
          clear hb
          have px_0 : w13.cell? ⟨w2.heap.size, 0, none⟩ = some (.slice (some ⟨g1, 0, none⟩) a.length c1) := (F35.out.blk 5 rfl).cell 0
          have px_1 : w13.cell? ⟨w2.heap.size, 1, none⟩ = some (.slice (some ⟨g2, 0, none⟩) l.length c3) := (F35.out.blk 5 rfl).cell 1
          go_wp2_with fail
          clear px_0 px_1
          refine (dvals_at _ _ _ _ _ _ a l _ (GR.Own.rd ((F35.out.own 3 rfl).d) bma).2.2 (GR.Own.rd ((F35.out.own 3 rfl).s) bml).2.2 rfl rfl NA.out NL.out).mono ?_
          rintro e w14 ⟨Vn, kn, rfl, hkn, ho, hb⟩
          have F36 := Lib.hid (F35.out.below hb)
          clear F35
          have F37 := Lib.hid (F36.out.addW (ho))
          clear F36
          have Rn1 := Lib.hid (show ∀ b, Value.ownBlock (.slice Vn (valsA a l).length kn) = some b → _ ≤ b from fun b hb => (ho.lt b hb).1)
          have Rn2 := Lib.hid (show ∀ b, Value.ownBlock (.slice Vn (valsA a l).length kn) = some b → b < w14.heap.size from fun b hb => (ho.lt b hb).2)
          have Sw14 := hb.size
          replace BB := Lib.hid (bl_then BB.out hb)
          clear ho hb
          go_wp2_with fail
          refine (texts_self _ _ _ _ _ _ (valsA a l) _ (GR.Own.rd (F37.out.ow 0 rfl) bv).2.2 (GR.Own.rd (F37.out.ow 2 rfl) bv).2.2 rfl rfl).mono ?_
          rintro e w15 ⟨rfl, hb⟩
          have F38 := Lib.hid (F37.out.below hb)
          clear F37
          have Sw15 := hb.size
          replace BB := Lib.hid (bl_then BB.out hb)
          clear hb
          have px_0 : w15.cell? ⟨w2.heap.size, 0, none⟩ = some (.slice (some ⟨g1, 0, none⟩) a.length c1) := (F38.out.blk 6 rfl).cell 0
          have px_1 : w15.cell? ⟨w2.heap.size, 1, none⟩ = some (.slice (some ⟨g2, 0, none⟩) l.length c3) := (F38.out.blk 6 rfl).cell 1
          go_wp2_with fail
          clear px_0 px_1
          have AP := Lib.hid (ApS.of_lt (u := .slice (some ⟨g1, 0, none⟩) a.length c1) (v := .slice (some ⟨g2, 0, none⟩) l.length c3) (x := .slice (some ⟨g3, 0, none⟩) b.length c4) (y := .slice (some ⟨g4, 0, none⟩) m.length c5) (C := W3.heap.size) (fun k hk => by have := RX2.out k hk; omega) RY1.out)
          refine (over_any _ _ _ a l _ (F38.out.own 4 rfl) sa sl NA.out NL.out).mono ?_
          rintro e w16 ⟨⟨r, rfl⟩, a', l', hx1, hx2, hx3, hx4, ho, hc⟩
          have Bpx : Hid (GR.Blk w16 (w2.heap.size) 25 #[.slice (some ⟨g1, 0, none⟩) a.length c1, .slice (some ⟨g2, 0, none⟩) l.length c3]) := Lib.hid (OwnS.blk (F38.out.own 4 rfl) (F38.out.blk 6 rfl) hc)
          have Bpy : Hid (GR.Blk w16 (w4.heap.size) 25 #[.slice (some ⟨g3, 0, none⟩) b.length c4, .slice (some ⟨g4, 0, none⟩) m.length c5]) := Lib.hid (OwnS.blk (F38.out.own 4 rfl) (F38.out.blk 5 rfl) hc)
          have Oo := Lib.hid (OwnS.far (F38.out.own 3 rfl) (F38.out.own 4 rfl) AP.out.symm hc)
          have Oc := Lib.hid ho
          have BB2 := Lib.hid (Below.trans BB.out (hc.below (B := W1.heap.size) BB.out.size (fun k hk => by have := RX1.out k hk; omega)))
          have BB := BB2
          clear BB2 ho hc
          have F39 := Lib.hid (HS.nil w16)
          have F40 := Lib.hid (HS.addB F39.out (g := w2.heap.size) (t := 25) (cs := #[.slice (some ⟨g1, 0, none⟩) a.length c1, .slice (some ⟨g2, 0, none⟩) l.length c3]) (Bpx.out))
          clear F39
          have F41 := Lib.hid (HS.addB F40.out (g := w4.heap.size) (t := 25) (cs := #[.slice (some ⟨g3, 0, none⟩) b.length c4, .slice (some ⟨g4, 0, none⟩) m.length c5]) (Bpy.out))
          clear F40
          have F42 := Lib.hid (F41.out.addO (Oc.out))
          clear F41
          have F43 := Lib.hid (F42.out.addO (Oo.out))
          clear F42
          clear Bpx Bpy Oo Oc F38
          have py_0 : w16.cell? ⟨w4.heap.size, 0, none⟩ = some (.slice (some ⟨g3, 0, none⟩) b.length c4) := (F43.out.blk 2 rfl).cell 0
          have py_1 : w16.cell? ⟨w4.heap.size, 1, none⟩ = some (.slice (some ⟨g4, 0, none⟩) m.length c5) := (F43.out.blk 2 rfl).cell 1
          go_wp2_with fail
          clear py_0 py_1
          refine (over_any _ _ _ b m _ (F43.out.own 0 rfl) sb sm NB.out NM.out).mono ?_
          rintro e w17 ⟨⟨r, rfl⟩, b', m', hy1, hy2, hy3, hy4, ho, hc⟩
          have Bpx : Hid (GR.Blk w17 (w2.heap.size) 25 #[.slice (some ⟨g1, 0, none⟩) a.length c1, .slice (some ⟨g2, 0, none⟩) l.length c3]) := Lib.hid (OwnS.blk (F43.out.own 0 rfl) (F43.out.blk 3 rfl) hc)
          have Bpy : Hid (GR.Blk w17 (w4.heap.size) 25 #[.slice (some ⟨g3, 0, none⟩) b.length c4, .slice (some ⟨g4, 0, none⟩) m.length c5]) := Lib.hid (OwnS.blk (F43.out.own 0 rfl) (F43.out.blk 2 rfl) hc)
          have Oo := Lib.hid (OwnS.far (F43.out.own 1 rfl) (F43.out.own 0 rfl) AP.out hc)
          have Oc := Lib.hid ho
          have BB2 := Lib.hid (Below.trans BB.out (hc.below (B := W1.heap.size) BB.out.size (fun k hk => by have := RY1.out k hk; omega)))
          have BB := BB2
          clear BB2 ho hc
          have F44 := Lib.hid (HS.nil w17)
          have F45 := Lib.hid (HS.addB F44.out (g := w2.heap.size) (t := 25) (cs := #[.slice (some ⟨g1, 0, none⟩) a.length c1, .slice (some ⟨g2, 0, none⟩) l.length c3]) (Bpx.out))
          clear F44
          have F46 := Lib.hid (HS.addB F45.out (g := w4.heap.size) (t := 25) (cs := #[.slice (some ⟨g3, 0, none⟩) b.length c4, .slice (some ⟨g4, 0, none⟩) m.length c5]) (Bpy.out))
          clear F45
          have F47 := Lib.hid (F46.out.addO (Oc.out))
          clear F46
          have F48 := Lib.hid (F47.out.addO (Oo.out))
          clear F47
          clear Bpx Bpy Oo Oc F43
          have EL := Lib.hid hx1
          have EL2 := Lib.hid hx2
          have EL3 := Lib.hid hy1
          have EL4 := Lib.hid hy2
          have NA' := Lib.hid hx3
          have NL' := Lib.hid hx4
          have NB' := Lib.hid hy3
          have NM' := Lib.hid hy4
          have bxd : a'.length * 16 ≤ 140737488355328 := by omega
          have bxs : l'.length * 40 ≤ 140737488355328 := by omega
          have byd : b'.length * 16 ≤ 140737488355328 := by omega
          have bys : m'.length * 40 ≤ 140737488355328 := by omega
          have VL2 := Lib.hid (vals_len a' l')
          have bv2 : (valsA a' l').length * 16 ≤ 140737488355328 := by have := VL2.out; omega
          clear hx1 hx2 hx3 hx4 hy1 hy2 hy3 hy4 AP RX1 RX2 RY1 RY2
          have px_0 : w17.cell? ⟨w2.heap.size, 0, none⟩ = some (.slice (some ⟨g1, 0, none⟩) a.length c1) := (F48.out.blk 3 rfl).cell 0
          have px_1 : w17.cell? ⟨w2.heap.size, 1, none⟩ = some (.slice (some ⟨g2, 0, none⟩) l.length c3) := (F48.out.blk 3 rfl).cell 1
          go_wp2_with fail
          clear px_0 px_1
          refine (twin_at _ _ _ _ _ _ a' l' _ (GR.Own.rd ((F48.out.own 0 rfl).d) bxd).2.2 (GR.Own.rd ((F48.out.own 0 rfl).s) bxs).2.2 EL.out.symm EL2.out.symm).mono ?_
          rintro e w18 ⟨v1, v2, rfl, ho, hb⟩
          obtain ⟨Ap1, np1, kp1, rfl⟩ := own_slice ho.d bxd
          obtain ⟨Ap2, np2, kp2, rfl⟩ := own_slice ho.s bxs
          obtain rfl : np1 = a'.length := own_n' ho.d
          obtain rfl : np2 = l'.length := own_n' ho.s
          have F49 := Lib.hid (F48.out.below hb)
          clear F48
          have F50 := Lib.hid (F49.out.addO (ho))
          clear F49
          replace BB := Lib.hid (bl_then BB.out hb)
          clear ho hb
          have py_0 : w18.cell? ⟨w4.heap.size, 0, none⟩ = some (.slice (some ⟨g3, 0, none⟩) b.length c4) := (F50.out.blk 3 rfl).cell 0
          have py_1 : w18.cell? ⟨w4.heap.size, 1, none⟩ = some (.slice (some ⟨g4, 0, none⟩) m.length c5) := (F50.out.blk 3 rfl).cell 1
          have py_lt : w4.heap.size < w18.heap.size := (F50.out.blk 3 rfl).lt
          go_wp2_with fail
          obtain ⟨W19, hW19⟩ : ∃ W : World, W = w18.alloc (.cells #[.slice Ap1 a'.length kp1, .slice Ap2 l'.length kp2] 25) := ⟨_, rfl⟩
          rw [← hW19]
          have LW19 : Hid (Below w18.heap.size w18 W19) := Lib.hid (by rw [hW19]; exact (by repeat (first | exact Below.refl _ _ | refine bl_drewN ?_ _ | refine bl_drew ?_ | refine bl_alloc ?_ _)))
          have XW19 : Hid (GR.Blk W19 w18.heap.size 25 #[.slice Ap1 a'.length kp1, .slice Ap2 l'.length kp2]) := Lib.hid (by rw [hW19]; exact GR.Blk.new _ _ _)
          have SW19 : w18.heap.size < W19.heap.size := XW19.out.lt
          clear hW19
          clear py_0 py_1 py_lt
          have F51 := Lib.hid (F50.out.below LW19.out)
          clear F50
          have F52 := Lib.hid (HS.addB F51.out (g := w18.heap.size) (t := 25) (cs := #[.slice Ap1 a'.length kp1, .slice Ap2 l'.length kp2]) (XW19.out))
          clear F51
          replace BB := Lib.hid (bl_then BB.out LW19.out)
          refine (twin_at _ _ _ _ _ _ b' m' _ (GR.Own.rd ((F52.out.own 3 rfl).d) byd).2.2 (GR.Own.rd ((F52.out.own 3 rfl).s) bys).2.2 EL3.out.symm EL4.out.symm).mono ?_
          rintro e w20 ⟨v1, v2, rfl, ho, hb⟩
          obtain ⟨Aq1, nq1, kq1, rfl⟩ := own_slice ho.d byd
          obtain ⟨Aq2, nq2, kq2, rfl⟩ := own_slice ho.s bys
          obtain rfl : nq1 = b'.length := own_n' ho.d
          obtain rfl : nq2 = m'.length := own_n' ho.s
          have F53 := Lib.hid (F52.out.below hb)
          clear F52
          have F54 := Lib.hid (F53.out.addO (ho))
          clear F53
          replace BB := Lib.hid (bl_then BB.out hb)
          clear ho hb
          go_wp2_with fail
          obtain ⟨W21, hW21⟩ : ∃ W : World, W = w20.alloc (.cells #[.slice Aq1 b'.length kq1, .slice Aq2 m'.length kq2] 25) := ⟨_, rfl⟩
          rw [← hW21]
          have LW21 : Hid (Below w20.heap.size w20 W21) := Lib.hid (by rw [hW21]; exact (by repeat (first | exact Below.refl _ _ | refine bl_drewN ?_ _ | refine bl_drew ?_ | refine bl_alloc ?_ _)))
          have XW21 : Hid (GR.Blk W21 w20.heap.size 25 #[.slice Aq1 b'.length kq1, .slice Aq2 m'.length kq2]) := Lib.hid (by rw [hW21]; exact GR.Blk.new _ _ _)
          have SW21 : w20.heap.size < W21.heap.size := XW21.out.lt
          clear hW21
          have F55 := Lib.hid (F54.out.below LW21.out)
          clear F54
          have F56 := Lib.hid (HS.addB F55.out (g := w20.heap.size) (t := 25) (cs := #[.slice Aq1 b'.length kq1, .slice Aq2 m'.length kq2]) (XW21.out))
          clear F55
          replace BB := Lib.hid (bl_then BB.out LW21.out)
          have RXd := Lib.hid (GR.Own.rd ((F56.out.own 4 rfl).d) bxd).2.2
          have RXs := Lib.hid (GR.Own.rd ((F56.out.own 4 rfl).s) bxs).2.2
          have RYd := Lib.hid (GR.Own.rd ((F56.out.own 5 rfl).d) byd).2.2
          have RYs := Lib.hid (GR.Own.rd ((F56.out.own 5 rfl).s) bys).2.2
          have RCd := Lib.hid (GR.Own.rd ((F56.out.own 3 rfl).d) bxd).2.2
          have RCs := Lib.hid (GR.Own.rd ((F56.out.own 3 rfl).s) bxs).2.2
          have REd := Lib.hid (GR.Own.rd ((F56.out.own 1 rfl).d) byd).2.2
          have REs := Lib.hid (GR.Own.rd ((F56.out.own 1 rfl).s) bys).2.2
          have CX := Lib.hid (show a.length ≤ c1 by have h1 := (GR.Own.rd ((F56.out.own 4 rfl).d) bxd).2.1; have h2 := EL.out; omega)
          have CY := Lib.hid (show b.length ≤ c4 by have h1 := (GR.Own.rd ((F56.out.own 5 rfl).d) byd).2.1; have h2 := EL3.out; omega)
          have K0 : Hid (W21.cell? ⟨w2.heap.size, 0, none⟩ = some (.slice (some ⟨g1, 0, none⟩) a.length c1)) := Lib.hid ((F56.out.blk 7 rfl).cell 0)
          have K1 : Hid (W21.cell? ⟨w2.heap.size, 1, none⟩ = some (.slice (some ⟨g2, 0, none⟩) l.length c3)) := Lib.hid ((F56.out.blk 7 rfl).cell 1)
          have K2 : Hid (W21.cell? ⟨w4.heap.size, 0, none⟩ = some (.slice (some ⟨g3, 0, none⟩) b.length c4)) := Lib.hid ((F56.out.blk 6 rfl).cell 0)
          have K3 : Hid (W21.cell? ⟨w4.heap.size, 1, none⟩ = some (.slice (some ⟨g4, 0, none⟩) m.length c5)) := Lib.hid ((F56.out.blk 6 rfl).cell 1)
          have K4 : Hid (W21.cell? ⟨w18.heap.size, 0, none⟩ = some (.slice Ap1 a'.length kp1)) := Lib.hid ((F56.out.blk 2 rfl).cell 0)
          have K5 : Hid (W21.cell? ⟨w18.heap.size, 1, none⟩ = some (.slice Ap2 l'.length kp2)) := Lib.hid ((F56.out.blk 2 rfl).cell 1)
          have K6 : Hid (W21.cell? ⟨w20.heap.size, 0, none⟩ = some (.slice Aq1 b'.length kq1)) := Lib.hid ((F56.out.blk 0 rfl).cell 0)
          have K7 : Hid (W21.cell? ⟨w20.heap.size, 1, none⟩ = some (.slice Aq2 m'.length kq2)) := Lib.hid ((F56.out.blk 0 rfl).cell 1)
          obtain ⟨r1, hr1⟩ : ∃ r, staB a' l' = r := ⟨_, rfl⟩
          obtain ⟨r2, hr2⟩ : ∃ r, belS a' l' b' m' = r := ⟨_, rfl⟩
          have HR1 := Lib.hid hr1
          have HR2 := Lib.hid hr2
          clear hr1 hr2
          have q1 : (r1 == r1) = true := by simp
          have q2 : (r2 == r2) = true := by simp
          have HR := Lib.hid (Below.refl W21.heap.size W21)
          go_wp2
          refine wp_region_held_drew (S := fun w' => w'.cell? ⟨w2.heap.size, 0, none⟩ = some (.slice (some ⟨g1, 0, none⟩) a.length c1) ∧ w'.cell? ⟨w2.heap.size, 1, none⟩ = some (.slice (some ⟨g2, 0, none⟩) l.length c3) ∧ w'.cell? ⟨w4.heap.size, 0, none⟩ = some (.slice (some ⟨g3, 0, none⟩) b.length c4) ∧ w'.cell? ⟨w4.heap.size, 1, none⟩ = some (.slice (some ⟨g4, 0, none⟩) m.length c5) ∧ w'.cell? ⟨w18.heap.size, 0, none⟩ = some (.slice Ap1 a'.length kp1) ∧ w'.cell? ⟨w18.heap.size, 1, none⟩ = some (.slice Ap2 l'.length kp2) ∧ w'.cell? ⟨w20.heap.size, 0, none⟩ = some (.slice Aq1 b'.length kq1) ∧ w'.cell? ⟨w20.heap.size, 1, none⟩ = some (.slice Aq2 m'.length kq2)) (by kernel_rfl) ?_ (fun hHeld => ?_)
          · exact ⟨K0.out, K1.out, K2.out, K3.out, K4.out, K5.out, K6.out, K7.out⟩
          refine wpAnyH_take (i := 0) (oi := { dst := some 107, op := Op.load 25 (Operand.tmp 5), type := 25, pos := "law.go:87", after := #[], guard := none }) (v := ?_) rfl (by kernel_rfl) (by kernel_rfl) (by kernel_rfl) (fun _ _ _ h => h) (Or.inl ⟨by rfl, ?_⟩) (by assumption) ?_
          rotate_left
          · intro w_ hSw
            (try dsimp only at hSw)
            go_simp
            first | done | with_reducible rfl
          try simp only [Act.put, List.setIfInBounds_toArray, List.set_cons_zero, List.set_cons_succ]
          refine wpAnyH_take (i := 2) (oi := { dst := some 109, op := Op.load 25 (Operand.tmp 12), type := 25, pos := "law.go:87", after := #[], guard := none }) (v := ?_) rfl (by kernel_rfl) (by kernel_rfl) (by kernel_rfl) (fun _ _ _ h => h) (Or.inl ⟨by rfl, ?_⟩) (by assumption) ?_
          rotate_left
          · intro w_ hSw
            (try dsimp only at hSw)
            go_simp
            first | done | with_reducible rfl
          try simp only [Act.put, List.setIfInBounds_toArray, List.set_cons_zero, List.set_cons_succ]
          refine wpAnyH_ready (rs := [1]) (by kernel_rfl) (by simp) ?_
          refine AllReadyH.cons (o := { dst := some 108, op := Op.call { callee := Callee.value (Operand.func 26), args := #[Operand.tmp 107], argTypes := #[25] }, type := 4, pos := "law.go:87", after := #[{ on := 0, ground := Ground.data }], guard := none }) rfl (fun K hK => ?_) (AllReadyH.nil)
          go_simp
          go_at_call 26
          refine (valid_at _ _ _ _ _ _ a' l' r1 _ (GR.Rd.below RXd.out (by repeat (first | exact HR.out | refine bl_drewN ?_ _ | refine bl_drew ?_ | refine bl_alloc ?_ _))) (GR.Rd.below RXs.out (by repeat (first | exact HR.out | refine bl_drewN ?_ _ | refine bl_drew ?_ | refine bl_alloc ?_ _))) EL.out.symm EL2.out.symm NA'.out NL'.out HR1.out).mono ?_
          rintro e wa ⟨rfl, hb2⟩
          have N_ := Lib.hid (bl_then (w := W21) (by repeat (first | exact HR.out | refine bl_drewN ?_ _ | refine bl_drew ?_ | refine bl_alloc ?_ _)) hb2)
          clear hb2 HR
          have HR := N_
          clear N_
          refine hK.out _ _ ?_ (fun hHeld => ?_)
          · exact ⟨(Below.cell (p := ⟨w2.heap.size, 0, none⟩) (by repeat (first | exact HR.out | refine bl_drewN ?_ _ | refine bl_drew ?_)) (World.block_lt_of_cell? W21 _ K0.out)).trans K0.out, (Below.cell (p := ⟨w2.heap.size, 1, none⟩) (by repeat (first | exact HR.out | refine bl_drewN ?_ _ | refine bl_drew ?_)) (World.block_lt_of_cell? W21 _ K1.out)).trans K1.out, (Below.cell (p := ⟨w4.heap.size, 0, none⟩) (by repeat (first | exact HR.out | refine bl_drewN ?_ _ | refine bl_drew ?_)) (World.block_lt_of_cell? W21 _ K2.out)).trans K2.out, (Below.cell (p := ⟨w4.heap.size, 1, none⟩) (by repeat (first | exact HR.out | refine bl_drewN ?_ _ | refine bl_drew ?_)) (World.block_lt_of_cell? W21 _ K3.out)).trans K3.out, (Below.cell (p := ⟨w18.heap.size, 0, none⟩) (by repeat (first | exact HR.out | refine bl_drewN ?_ _ | refine bl_drew ?_)) (World.block_lt_of_cell? W21 _ K4.out)).trans K4.out, (Below.cell (p := ⟨w18.heap.size, 1, none⟩) (by repeat (first | exact HR.out | refine bl_drewN ?_ _ | refine bl_drew ?_)) (World.block_lt_of_cell? W21 _ K5.out)).trans K5.out, (Below.cell (p := ⟨w20.heap.size, 0, none⟩) (by repeat (first | exact HR.out | refine bl_drewN ?_ _ | refine bl_drew ?_)) (World.block_lt_of_cell? W21 _ K6.out)).trans K6.out, (Below.cell (p := ⟨w20.heap.size, 1, none⟩) (by repeat (first | exact HR.out | refine bl_drewN ?_ _ | refine bl_drew ?_)) (World.block_lt_of_cell? W21 _ K7.out)).trans K7.out⟩
          clear hK K
          try simp only [Act.put, List.setIfInBounds_toArray, List.set_cons_zero, List.set_cons_succ]
          refine wpAnyH_ready (rs := [3]) (by kernel_rfl) (by simp) ?_
          refine AllReadyH.cons (o := { dst := some 110, op := Op.call { callee := Callee.value (Operand.func 29), args := #[Operand.tmp 109], argTypes := #[25] }, type := 4, pos := "law.go:87", after := #[{ on := 2, ground := Ground.data }, { on := 1, ground := Ground.chain }], guard := none }) rfl (fun K hK => ?_) (AllReadyH.nil)
          go_simp
          go_at_call 29
          refine (rvalid_at _ _ _ _ _ _ a' l' r1 _ (GR.Rd.below RCd.out (by repeat (first | exact HR.out | refine bl_drewN ?_ _ | refine bl_drew ?_ | refine bl_alloc ?_ _))) (GR.Rd.below RCs.out (by repeat (first | exact HR.out | refine bl_drewN ?_ _ | refine bl_drew ?_ | refine bl_alloc ?_ _))) rfl rfl NA'.out NL'.out HR1.out).mono ?_
          rintro e wb ⟨rfl, hb2⟩
          have N_ := Lib.hid (bl_then (w := W21) (by repeat (first | exact HR.out | refine bl_drewN ?_ _ | refine bl_drew ?_ | refine bl_alloc ?_ _)) hb2)
          clear hb2 HR
          have HR := N_
          clear N_
          refine hK.out _ _ ?_ (fun hHeld => ?_)
          · exact ⟨(Below.cell (p := ⟨w2.heap.size, 0, none⟩) (by repeat (first | exact HR.out | refine bl_drewN ?_ _ | refine bl_drew ?_)) (World.block_lt_of_cell? W21 _ K0.out)).trans K0.out, (Below.cell (p := ⟨w2.heap.size, 1, none⟩) (by repeat (first | exact HR.out | refine bl_drewN ?_ _ | refine bl_drew ?_)) (World.block_lt_of_cell? W21 _ K1.out)).trans K1.out, (Below.cell (p := ⟨w4.heap.size, 0, none⟩) (by repeat (first | exact HR.out | refine bl_drewN ?_ _ | refine bl_drew ?_)) (World.block_lt_of_cell? W21 _ K2.out)).trans K2.out, (Below.cell (p := ⟨w4.heap.size, 1, none⟩) (by repeat (first | exact HR.out | refine bl_drewN ?_ _ | refine bl_drew ?_)) (World.block_lt_of_cell? W21 _ K3.out)).trans K3.out, (Below.cell (p := ⟨w18.heap.size, 0, none⟩) (by repeat (first | exact HR.out | refine bl_drewN ?_ _ | refine bl_drew ?_)) (World.block_lt_of_cell? W21 _ K4.out)).trans K4.out, (Below.cell (p := ⟨w18.heap.size, 1, none⟩) (by repeat (first | exact HR.out | refine bl_drewN ?_ _ | refine bl_drew ?_)) (World.block_lt_of_cell? W21 _ K5.out)).trans K5.out, (Below.cell (p := ⟨w20.heap.size, 0, none⟩) (by repeat (first | exact HR.out | refine bl_drewN ?_ _ | refine bl_drew ?_)) (World.block_lt_of_cell? W21 _ K6.out)).trans K6.out, (Below.cell (p := ⟨w20.heap.size, 1, none⟩) (by repeat (first | exact HR.out | refine bl_drewN ?_ _ | refine bl_drew ?_)) (World.block_lt_of_cell? W21 _ K7.out)).trans K7.out⟩
          clear hK K
          try simp only [Act.put, List.setIfInBounds_toArray, List.set_cons_zero, List.set_cons_succ]
          refine wpAnyH_take (i := 4) (oi := { dst := some 111, op := Op.binOp BinOp.eql 4 (Operand.tmp 108) (Operand.tmp 110) 4, type := 4, pos := "law.go:87", after := #[{ on := 1, ground := Ground.data }, { on := 3, ground := Ground.data }], guard := none }) (v := ?_) rfl (by kernel_rfl) (by kernel_rfl) (by kernel_rfl) (fun _ _ _ h => h) (Or.inl ⟨by rfl, ?_⟩) (by assumption) ?_
          rotate_left
          · intro w_ hSw
            (try dsimp only at hSw)
            go_simp
            first | done | with_reducible rfl
          try simp only [Act.put, List.setIfInBounds_toArray, List.set_cons_zero, List.set_cons_succ]
          refine wpAnyH_take (i := 5) (oi := { dst := some 112, op := Op.move (Operand.tmp 111), type := 4, pos := "law.go:87", after := #[{ on := 4, ground := Ground.data }, { on := 3, ground := Ground.chain }], guard := none }) (v := ?_) rfl (by kernel_rfl) (by kernel_rfl) (by kernel_rfl) (fun _ _ _ h => h) (Or.inl ⟨by rfl, ?_⟩) (by assumption) ?_
          rotate_left
          · intro w_ hSw
            (try dsimp only at hSw)
            go_simp
            first | done | with_reducible rfl
          try simp only [Act.put, List.setIfInBounds_toArray, List.set_cons_zero, List.set_cons_succ]
          refine wpAnyH_take (i := 6) (oi := { dst := some 113, op := Op.load 25 (Operand.tmp 5), type := 25, pos := "law.go:87", after := #[{ on := 5, ground := Ground.guard }], guard := some (5, true) }) (v := ?_) rfl (by kernel_rfl) (by kernel_rfl) (by kernel_rfl) (fun _ _ _ h => h) (Or.inl ⟨by rfl, ?_⟩) (by assumption) ?_
          rotate_left
          · intro w_ hSw
            (try dsimp only at hSw)
            go_simp
            first | done | with_reducible rfl
          try simp only [Act.put, List.setIfInBounds_toArray, List.set_cons_zero, List.set_cons_succ]
          refine wpAnyH_take (i := 7) (oi := { dst := some 114, op := Op.load 25 (Operand.tmp 6), type := 25, pos := "law.go:87", after := #[{ on := 5, ground := Ground.guard }], guard := some (5, true) }) (v := ?_) rfl (by kernel_rfl) (by kernel_rfl) (by kernel_rfl) (fun _ _ _ h => h) (Or.inl ⟨by rfl, ?_⟩) (by assumption) ?_
          rotate_left
          · intro w_ hSw
            (try dsimp only at hSw)
            go_simp
            first | done | with_reducible rfl
          try simp only [Act.put, List.setIfInBounds_toArray, List.set_cons_zero, List.set_cons_succ]
          refine wpAnyH_take (i := 9) (oi := { dst := some 116, op := Op.load 25 (Operand.tmp 12), type := 25, pos := "law.go:87", after := #[{ on := 5, ground := Ground.guard }], guard := some (5, true) }) (v := ?_) rfl (by kernel_rfl) (by kernel_rfl) (by kernel_rfl) (fun _ _ _ h => h) (Or.inl ⟨by rfl, ?_⟩) (by assumption) ?_
          rotate_left
          · intro w_ hSw
            (try dsimp only at hSw)
            go_simp
            first | done | with_reducible rfl
          try simp only [Act.put, List.setIfInBounds_toArray, List.set_cons_zero, List.set_cons_succ]
          refine wpAnyH_take (i := 10) (oi := { dst := some 117, op := Op.load 25 (Operand.tmp 13), type := 25, pos := "law.go:87", after := #[{ on := 5, ground := Ground.guard }], guard := some (5, true) }) (v := ?_) rfl (by kernel_rfl) (by kernel_rfl) (by kernel_rfl) (fun _ _ _ h => h) (Or.inl ⟨by rfl, ?_⟩) (by assumption) ?_
          rotate_left
          · intro w_ hSw
            (try dsimp only at hSw)
            go_simp
            first | done | with_reducible rfl
          try simp only [Act.put, List.setIfInBounds_toArray, List.set_cons_zero, List.set_cons_succ]
          refine wpAnyH_ready (rs := [8]) (by kernel_rfl) (by simp) ?_
          refine AllReadyH.cons (o := { dst := some 115, op := Op.call { callee := Callee.value (Operand.func 31), args := #[Operand.tmp 113, Operand.tmp 114], argTypes := #[25, 25] }, type := 4, pos := "law.go:87", after := #[{ on := 6, ground := Ground.data }, { on := 7, ground := Ground.data }, { on := 5, ground := Ground.chain }, { on := 5, ground := Ground.guard }], guard := some (5, true) }) rfl (fun K hK => ?_) (AllReadyH.nil)
          go_simp
          go_at_call 31
          refine (bel_at2 _ _ _ _ _ _ _ _ _ _ _ _ a' b' l' m' r2 _ (GR.Rd.below RXd.out (by repeat (first | exact HR.out | refine bl_drewN ?_ _ | refine bl_drew ?_ | refine bl_alloc ?_ _))) (GR.Rd.below RXs.out (by repeat (first | exact HR.out | refine bl_drewN ?_ _ | refine bl_drew ?_ | refine bl_alloc ?_ _))) (GR.Rd.below RYd.out (by repeat (first | exact HR.out | refine bl_drewN ?_ _ | refine bl_drew ?_ | refine bl_alloc ?_ _))) (GR.Rd.below RYs.out (by repeat (first | exact HR.out | refine bl_drewN ?_ _ | refine bl_drew ?_ | refine bl_alloc ?_ _))) EL.out.symm EL2.out.symm EL3.out.symm EL4.out.symm CX.out CY.out NA'.out NL'.out NB'.out NM'.out HR2.out).mono ?_
          rintro e wc ⟨rfl, hb2⟩
          have N_ := Lib.hid (bl_then (w := W21) (by repeat (first | exact HR.out | refine bl_drewN ?_ _ | refine bl_drew ?_ | refine bl_alloc ?_ _)) hb2)
          clear hb2 HR
          have HR := N_
          clear N_
          refine hK.out _ _ ?_ (fun hHeld => ?_)
          · exact ⟨(Below.cell (p := ⟨w2.heap.size, 0, none⟩) (by repeat (first | exact HR.out | refine bl_drewN ?_ _ | refine bl_drew ?_)) (World.block_lt_of_cell? W21 _ K0.out)).trans K0.out, (Below.cell (p := ⟨w2.heap.size, 1, none⟩) (by repeat (first | exact HR.out | refine bl_drewN ?_ _ | refine bl_drew ?_)) (World.block_lt_of_cell? W21 _ K1.out)).trans K1.out, (Below.cell (p := ⟨w4.heap.size, 0, none⟩) (by repeat (first | exact HR.out | refine bl_drewN ?_ _ | refine bl_drew ?_)) (World.block_lt_of_cell? W21 _ K2.out)).trans K2.out, (Below.cell (p := ⟨w4.heap.size, 1, none⟩) (by repeat (first | exact HR.out | refine bl_drewN ?_ _ | refine bl_drew ?_)) (World.block_lt_of_cell? W21 _ K3.out)).trans K3.out, (Below.cell (p := ⟨w18.heap.size, 0, none⟩) (by repeat (first | exact HR.out | refine bl_drewN ?_ _ | refine bl_drew ?_)) (World.block_lt_of_cell? W21 _ K4.out)).trans K4.out, (Below.cell (p := ⟨w18.heap.size, 1, none⟩) (by repeat (first | exact HR.out | refine bl_drewN ?_ _ | refine bl_drew ?_)) (World.block_lt_of_cell? W21 _ K5.out)).trans K5.out, (Below.cell (p := ⟨w20.heap.size, 0, none⟩) (by repeat (first | exact HR.out | refine bl_drewN ?_ _ | refine bl_drew ?_)) (World.block_lt_of_cell? W21 _ K6.out)).trans K6.out, (Below.cell (p := ⟨w20.heap.size, 1, none⟩) (by repeat (first | exact HR.out | refine bl_drewN ?_ _ | refine bl_drew ?_)) (World.block_lt_of_cell? W21 _ K7.out)).trans K7.out⟩
          clear hK K
          try simp only [Act.put, List.setIfInBounds_toArray, List.set_cons_zero, List.set_cons_succ]
          refine wpAnyH_ready (rs := [11]) (by kernel_rfl) (by simp) ?_
          refine AllReadyH.cons (o := { dst := some 118, op := Op.call { callee := Callee.value (Operand.func 32), args := #[Operand.tmp 116, Operand.tmp 117], argTypes := #[25, 25] }, type := 4, pos := "law.go:87", after := #[{ on := 9, ground := Ground.data }, { on := 10, ground := Ground.data }, { on := 8, ground := Ground.chain }, { on := 5, ground := Ground.guard }], guard := some (5, true) }) rfl (fun K hK => ?_) (AllReadyH.nil)
          go_simp
          go_at_call 32
          refine (rbel_at _ _ _ _ _ _ _ _ _ _ _ _ a' b' l' m' r2 _ (GR.Rd.below RCd.out (by repeat (first | exact HR.out | refine bl_drewN ?_ _ | refine bl_drew ?_ | refine bl_alloc ?_ _))) (GR.Rd.below RCs.out (by repeat (first | exact HR.out | refine bl_drewN ?_ _ | refine bl_drew ?_ | refine bl_alloc ?_ _))) (GR.Rd.below REd.out (by repeat (first | exact HR.out | refine bl_drewN ?_ _ | refine bl_drew ?_ | refine bl_alloc ?_ _))) (GR.Rd.below REs.out (by repeat (first | exact HR.out | refine bl_drewN ?_ _ | refine bl_drew ?_ | refine bl_alloc ?_ _))) rfl rfl rfl rfl NA'.out NL'.out NB'.out NM'.out HR2.out).mono ?_
          rintro e wd ⟨rfl, hb2⟩
          have N_ := Lib.hid (bl_then (w := W21) (by repeat (first | exact HR.out | refine bl_drewN ?_ _ | refine bl_drew ?_ | refine bl_alloc ?_ _)) hb2)
          clear hb2 HR
          have HR := N_
          clear N_
          refine hK.out _ _ ?_ (fun hHeld => ?_)
          · exact ⟨(Below.cell (p := ⟨w2.heap.size, 0, none⟩) (by repeat (first | exact HR.out | refine bl_drewN ?_ _ | refine bl_drew ?_)) (World.block_lt_of_cell? W21 _ K0.out)).trans K0.out, (Below.cell (p := ⟨w2.heap.size, 1, none⟩) (by repeat (first | exact HR.out | refine bl_drewN ?_ _ | refine bl_drew ?_)) (World.block_lt_of_cell? W21 _ K1.out)).trans K1.out, (Below.cell (p := ⟨w4.heap.size, 0, none⟩) (by repeat (first | exact HR.out | refine bl_drewN ?_ _ | refine bl_drew ?_)) (World.block_lt_of_cell? W21 _ K2.out)).trans K2.out, (Below.cell (p := ⟨w4.heap.size, 1, none⟩) (by repeat (first | exact HR.out | refine bl_drewN ?_ _ | refine bl_drew ?_)) (World.block_lt_of_cell? W21 _ K3.out)).trans K3.out, (Below.cell (p := ⟨w18.heap.size, 0, none⟩) (by repeat (first | exact HR.out | refine bl_drewN ?_ _ | refine bl_drew ?_)) (World.block_lt_of_cell? W21 _ K4.out)).trans K4.out, (Below.cell (p := ⟨w18.heap.size, 1, none⟩) (by repeat (first | exact HR.out | refine bl_drewN ?_ _ | refine bl_drew ?_)) (World.block_lt_of_cell? W21 _ K5.out)).trans K5.out, (Below.cell (p := ⟨w20.heap.size, 0, none⟩) (by repeat (first | exact HR.out | refine bl_drewN ?_ _ | refine bl_drew ?_)) (World.block_lt_of_cell? W21 _ K6.out)).trans K6.out, (Below.cell (p := ⟨w20.heap.size, 1, none⟩) (by repeat (first | exact HR.out | refine bl_drewN ?_ _ | refine bl_drew ?_)) (World.block_lt_of_cell? W21 _ K7.out)).trans K7.out⟩
          clear hK K
          try simp only [Act.put, List.setIfInBounds_toArray, List.set_cons_zero, List.set_cons_succ]
          refine wpAnyH_take (i := 12) (oi := { dst := some 119, op := Op.binOp BinOp.eql 4 (Operand.tmp 115) (Operand.tmp 118) 4, type := 4, pos := "law.go:87", after := #[{ on := 8, ground := Ground.data }, { on := 11, ground := Ground.data }, { on := 5, ground := Ground.guard }], guard := some (5, true) }) (v := ?_) rfl (by kernel_rfl) (by kernel_rfl) (by kernel_rfl) (fun _ _ _ h => h) (Or.inl ⟨by rfl, ?_⟩) (by assumption) ?_
          rotate_left
          · intro w_ hSw
            (try dsimp only at hSw)
            go_simp
            first | done | with_reducible rfl
          try simp only [Act.put, List.setIfInBounds_toArray, List.set_cons_zero, List.set_cons_succ]
          refine wpAnyH_take (i := 13) (oi := { dst := some 120, op := Op.pick (Operand.tmp 112) (Operand.tmp 119) (Operand.const (Value.bool false)), type := 4, pos := "law.go:87", after := #[{ on := 5, ground := Ground.data }, { on := 12, ground := Ground.data }], guard := none }) (v := ?_) rfl (by kernel_rfl) (by kernel_rfl) (by kernel_rfl) (fun _ _ _ h => h) (Or.inl ⟨by rfl, ?_⟩) (by assumption) ?_
          rotate_left
          · intro w_ hSw
            (try dsimp only at hSw)
            go_simp
            first | done | with_reducible rfl
          try simp only [Act.put, List.setIfInBounds_toArray, List.set_cons_zero, List.set_cons_succ]
          refine wpAnyH_take (i := 14) (oi := { dst := some 121, op := Op.move (Operand.tmp 120), type := 4, pos := "law.go:87", after := #[{ on := 13, ground := Ground.data }, { on := 11, ground := Ground.chain }], guard := none }) (v := ?_) rfl (by kernel_rfl) (by kernel_rfl) (by kernel_rfl) (fun _ _ _ h => h) (Or.inl ⟨by rfl, ?_⟩) (by assumption) ?_
          rotate_left
          · intro w_ hSw
            (try dsimp only at hSw)
            go_simp
            first | done | with_reducible rfl
          try simp only [Act.put, List.setIfInBounds_toArray, List.set_cons_zero, List.set_cons_succ]
          refine wpAnyH_take (i := 15) (oi := { dst := some 122, op := Op.load 25 (Operand.tmp 5), type := 25, pos := "law.go:87", after := #[{ on := 14, ground := Ground.guard }], guard := some (14, true) }) (v := ?_) rfl (by kernel_rfl) (by kernel_rfl) (by kernel_rfl) (fun _ _ _ h => h) (Or.inl ⟨by rfl, ?_⟩) (by assumption) ?_
          rotate_left
          · intro w_ hSw
            (try dsimp only at hSw)
            go_simp
            first | done | with_reducible rfl
          try simp only [Act.put, List.setIfInBounds_toArray, List.set_cons_zero, List.set_cons_succ]
          refine wpAnyH_take (i := 17) (oi := { dst := some 124, op := Op.load 25 (Operand.tmp 12), type := 25, pos := "law.go:87", after := #[{ on := 14, ground := Ground.guard }], guard := some (14, true) }) (v := ?_) rfl (by kernel_rfl) (by kernel_rfl) (by kernel_rfl) (fun _ _ _ h => h) (Or.inl ⟨by rfl, ?_⟩) (by assumption) ?_
          rotate_left
          · intro w_ hSw
            (try dsimp only at hSw)
            go_simp
            first | done | with_reducible rfl
          try simp only [Act.put, List.setIfInBounds_toArray, List.set_cons_zero, List.set_cons_succ]
          refine wpAnyH_ready (rs := [16]) (by kernel_rfl) (by simp) ?_
          refine AllReadyH.cons (o := { dst := some 123, op := Op.call { callee := Callee.value (Operand.func 28), args := #[Operand.tmp 122], argTypes := #[25] }, type := 49, pos := "law.go:87", after := #[{ on := 15, ground := Ground.data }, { on := 14, ground := Ground.chain }, { on := 14, ground := Ground.guard }], guard := some (14, true) }) rfl (fun K hK => ?_) (AllReadyH.nil)
          go_simp
          go_at_call 28
          refine (dvals_at _ _ _ _ _ _ a' l' _ (GR.Rd.below RXd.out (by repeat (first | exact HR.out | refine bl_drewN ?_ _ | refine bl_drew ?_ | refine bl_alloc ?_ _))) (GR.Rd.below RXs.out (by repeat (first | exact HR.out | refine bl_drewN ?_ _ | refine bl_drew ?_ | refine bl_alloc ?_ _))) EL.out.symm EL2.out.symm NA'.out NL'.out).mono ?_
          rintro e we ⟨Cv, kv, rfl, hkv, ho, hb2⟩
          have TV := Lib.hid ho
          clear ho
          have N_ := Lib.hid (bl_then (w := W21) (by repeat (first | exact HR.out | refine bl_drewN ?_ _ | refine bl_drew ?_ | refine bl_alloc ?_ _)) hb2)
          clear hb2 HR
          have HR := N_
          clear N_
          refine hK.out _ _ ?_ (fun hHeld => ?_)
          · exact ⟨(Below.cell (p := ⟨w2.heap.size, 0, none⟩) (by repeat (first | exact HR.out | refine bl_drewN ?_ _ | refine bl_drew ?_)) (World.block_lt_of_cell? W21 _ K0.out)).trans K0.out, (Below.cell (p := ⟨w2.heap.size, 1, none⟩) (by repeat (first | exact HR.out | refine bl_drewN ?_ _ | refine bl_drew ?_)) (World.block_lt_of_cell? W21 _ K1.out)).trans K1.out, (Below.cell (p := ⟨w4.heap.size, 0, none⟩) (by repeat (first | exact HR.out | refine bl_drewN ?_ _ | refine bl_drew ?_)) (World.block_lt_of_cell? W21 _ K2.out)).trans K2.out, (Below.cell (p := ⟨w4.heap.size, 1, none⟩) (by repeat (first | exact HR.out | refine bl_drewN ?_ _ | refine bl_drew ?_)) (World.block_lt_of_cell? W21 _ K3.out)).trans K3.out, (Below.cell (p := ⟨w18.heap.size, 0, none⟩) (by repeat (first | exact HR.out | refine bl_drewN ?_ _ | refine bl_drew ?_)) (World.block_lt_of_cell? W21 _ K4.out)).trans K4.out, (Below.cell (p := ⟨w18.heap.size, 1, none⟩) (by repeat (first | exact HR.out | refine bl_drewN ?_ _ | refine bl_drew ?_)) (World.block_lt_of_cell? W21 _ K5.out)).trans K5.out, (Below.cell (p := ⟨w20.heap.size, 0, none⟩) (by repeat (first | exact HR.out | refine bl_drewN ?_ _ | refine bl_drew ?_)) (World.block_lt_of_cell? W21 _ K6.out)).trans K6.out, (Below.cell (p := ⟨w20.heap.size, 1, none⟩) (by repeat (first | exact HR.out | refine bl_drewN ?_ _ | refine bl_drew ?_)) (World.block_lt_of_cell? W21 _ K7.out)).trans K7.out⟩
          clear hK K
          try simp only [Act.put, List.setIfInBounds_toArray, List.set_cons_zero, List.set_cons_succ]
          refine wpAnyH_ready (rs := [18]) (by kernel_rfl) (by simp) ?_
          refine AllReadyH.cons (o := { dst := some 125, op := Op.call { callee := Callee.value (Operand.func 27), args := #[Operand.tmp 124], argTypes := #[25] }, type := 49, pos := "law.go:87", after := #[{ on := 17, ground := Ground.data }, { on := 16, ground := Ground.chain }, { on := 14, ground := Ground.guard }], guard := some (14, true) }) rfl (fun K hK => ?_) (AllReadyH.nil)
          go_simp
          go_at_call 27
          refine (rvals_at _ _ _ _ _ _ a' l' _ (GR.Rd.below RCd.out (by repeat (first | exact HR.out | refine bl_drewN ?_ _ | refine bl_drew ?_ | refine bl_alloc ?_ _))) (GR.Rd.below RCs.out (by repeat (first | exact HR.out | refine bl_drewN ?_ _ | refine bl_drew ?_ | refine bl_alloc ?_ _))) rfl rfl NA'.out NL'.out).mono ?_
          rintro e wf ⟨Cu, ku, rfl, hku, ho, hb2⟩
          have T_ := Lib.hid (GR.Own.below (GR.Own.below (w := we) TV.out (by repeat (first | exact Below.refl _ _ | refine bl_drewN ?_ _ | refine bl_drew ?_ | refine bl_alloc ?_ _))) hb2)
          clear TV
          have TV := T_
          clear T_
          have TW := Lib.hid ho
          clear ho
          have N_ := Lib.hid (bl_then (w := W21) (by repeat (first | exact HR.out | refine bl_drewN ?_ _ | refine bl_drew ?_ | refine bl_alloc ?_ _)) hb2)
          clear hb2 HR
          have HR := N_
          clear N_
          refine hK.out _ _ ?_ (fun hHeld => ?_)
          · exact ⟨(Below.cell (p := ⟨w2.heap.size, 0, none⟩) (by repeat (first | exact HR.out | refine bl_drewN ?_ _ | refine bl_drew ?_)) (World.block_lt_of_cell? W21 _ K0.out)).trans K0.out, (Below.cell (p := ⟨w2.heap.size, 1, none⟩) (by repeat (first | exact HR.out | refine bl_drewN ?_ _ | refine bl_drew ?_)) (World.block_lt_of_cell? W21 _ K1.out)).trans K1.out, (Below.cell (p := ⟨w4.heap.size, 0, none⟩) (by repeat (first | exact HR.out | refine bl_drewN ?_ _ | refine bl_drew ?_)) (World.block_lt_of_cell? W21 _ K2.out)).trans K2.out, (Below.cell (p := ⟨w4.heap.size, 1, none⟩) (by repeat (first | exact HR.out | refine bl_drewN ?_ _ | refine bl_drew ?_)) (World.block_lt_of_cell? W21 _ K3.out)).trans K3.out, (Below.cell (p := ⟨w18.heap.size, 0, none⟩) (by repeat (first | exact HR.out | refine bl_drewN ?_ _ | refine bl_drew ?_)) (World.block_lt_of_cell? W21 _ K4.out)).trans K4.out, (Below.cell (p := ⟨w18.heap.size, 1, none⟩) (by repeat (first | exact HR.out | refine bl_drewN ?_ _ | refine bl_drew ?_)) (World.block_lt_of_cell? W21 _ K5.out)).trans K5.out, (Below.cell (p := ⟨w20.heap.size, 0, none⟩) (by repeat (first | exact HR.out | refine bl_drewN ?_ _ | refine bl_drew ?_)) (World.block_lt_of_cell? W21 _ K6.out)).trans K6.out, (Below.cell (p := ⟨w20.heap.size, 1, none⟩) (by repeat (first | exact HR.out | refine bl_drewN ?_ _ | refine bl_drew ?_)) (World.block_lt_of_cell? W21 _ K7.out)).trans K7.out⟩
          clear hK K
          try simp only [Act.put, List.setIfInBounds_toArray, List.set_cons_zero, List.set_cons_succ]
          refine wpAnyH_ready (rs := [19]) (by kernel_rfl) (by simp) ?_
          refine AllReadyH.cons (o := { dst := some 126, op := Op.call { callee := Callee.value (Operand.func 33), args := #[Operand.tmp 123, Operand.tmp 125], argTypes := #[49, 49] }, type := 4, pos := "law.go:87", after := #[{ on := 16, ground := Ground.data }, { on := 18, ground := Ground.data }, { on := 18, ground := Ground.chain }, { on := 14, ground := Ground.guard }], guard := some (14, true) }) rfl (fun K hK => ?_) (AllReadyH.nil)
          go_simp
          go_at_call 33
          refine (texts_self _ _ _ _ _ _ (valsA a' l') _ (GR.Own.rd (GR.Own.below (w := wf) TV.out (by repeat (first | exact Below.refl _ _ | refine bl_drewN ?_ _ | refine bl_drew ?_ | refine bl_alloc ?_ _))) bv2).2.2 (GR.Own.rd (GR.Own.below (w := wf) TW.out (by repeat (first | exact Below.refl _ _ | refine bl_drewN ?_ _ | refine bl_drew ?_ | refine bl_alloc ?_ _))) bv2).2.2 rfl rfl).mono ?_
          rintro e wg ⟨rfl, hb2⟩
          have N_ := Lib.hid (bl_then (w := W21) (by repeat (first | exact HR.out | refine bl_drewN ?_ _ | refine bl_drew ?_ | refine bl_alloc ?_ _)) hb2)
          clear hb2 HR
          have HR := N_
          clear N_
          refine hK.out _ _ ?_ (fun hHeld => ?_)
          · exact ⟨(Below.cell (p := ⟨w2.heap.size, 0, none⟩) (by repeat (first | exact HR.out | refine bl_drewN ?_ _ | refine bl_drew ?_)) (World.block_lt_of_cell? W21 _ K0.out)).trans K0.out, (Below.cell (p := ⟨w2.heap.size, 1, none⟩) (by repeat (first | exact HR.out | refine bl_drewN ?_ _ | refine bl_drew ?_)) (World.block_lt_of_cell? W21 _ K1.out)).trans K1.out, (Below.cell (p := ⟨w4.heap.size, 0, none⟩) (by repeat (first | exact HR.out | refine bl_drewN ?_ _ | refine bl_drew ?_)) (World.block_lt_of_cell? W21 _ K2.out)).trans K2.out, (Below.cell (p := ⟨w4.heap.size, 1, none⟩) (by repeat (first | exact HR.out | refine bl_drewN ?_ _ | refine bl_drew ?_)) (World.block_lt_of_cell? W21 _ K3.out)).trans K3.out, (Below.cell (p := ⟨w18.heap.size, 0, none⟩) (by repeat (first | exact HR.out | refine bl_drewN ?_ _ | refine bl_drew ?_)) (World.block_lt_of_cell? W21 _ K4.out)).trans K4.out, (Below.cell (p := ⟨w18.heap.size, 1, none⟩) (by repeat (first | exact HR.out | refine bl_drewN ?_ _ | refine bl_drew ?_)) (World.block_lt_of_cell? W21 _ K5.out)).trans K5.out, (Below.cell (p := ⟨w20.heap.size, 0, none⟩) (by repeat (first | exact HR.out | refine bl_drewN ?_ _ | refine bl_drew ?_)) (World.block_lt_of_cell? W21 _ K6.out)).trans K6.out, (Below.cell (p := ⟨w20.heap.size, 1, none⟩) (by repeat (first | exact HR.out | refine bl_drewN ?_ _ | refine bl_drew ?_)) (World.block_lt_of_cell? W21 _ K7.out)).trans K7.out⟩
          clear hK K
          try simp only [Act.put, List.setIfInBounds_toArray, List.set_cons_zero, List.set_cons_succ]
          refine wpAnyH_take (i := 20) (oi := { dst := some 127, op := Op.pick (Operand.tmp 121) (Operand.tmp 126) (Operand.const (Value.bool false)), type := 4, pos := "law.go:87", after := #[{ on := 14, ground := Ground.data }, { on := 19, ground := Ground.data }], guard := none }) (v := ?_) rfl (by kernel_rfl) (by kernel_rfl) (by kernel_rfl) (fun _ _ _ h => h) (Or.inl ⟨by rfl, ?_⟩) (by assumption) ?_
          rotate_left
          · intro w_ hSw
            (try dsimp only at hSw)
            go_simp
            first | done | with_reducible rfl
          try simp only [Act.put, List.setIfInBounds_toArray, List.set_cons_zero, List.set_cons_succ]
          refine wpAnyH_take (i := 21) (oi := { dst := some 4, op := Op.assign (Operand.tmp 127), type := 4, pos := "law.go:87", after := #[{ on := 20, ground := Ground.data }, { on := 19, ground := Ground.chain }, { on := 0, ground := Ground.phase }, { on := 1, ground := Ground.phase }, { on := 2, ground := Ground.phase }, { on := 3, ground := Ground.phase }, { on := 4, ground := Ground.phase }, { on := 5, ground := Ground.phase }, { on := 6, ground := Ground.phase }, { on := 7, ground := Ground.phase }, { on := 8, ground := Ground.phase }, { on := 9, ground := Ground.phase }, { on := 10, ground := Ground.phase }, { on := 11, ground := Ground.phase }, { on := 12, ground := Ground.phase }, { on := 13, ground := Ground.phase }, { on := 14, ground := Ground.phase }, { on := 15, ground := Ground.phase }, { on := 16, ground := Ground.phase }, { on := 17, ground := Ground.phase }, { on := 18, ground := Ground.phase }, { on := 19, ground := Ground.phase }, { on := 20, ground := Ground.phase }], guard := none }) (v := ?_) rfl (by kernel_rfl) (by kernel_rfl) (by kernel_rfl) (fun _ _ _ h => h) (Or.inl ⟨by rfl, ?_⟩) (by assumption) ?_
          rotate_left
          · intro w_ hSw
            (try dsimp only at hSw)
            go_simp
            first | done | with_reducible rfl
          try simp only [Act.put, List.setIfInBounds_toArray, List.set_cons_zero, List.set_cons_succ]
          refine wpAnyH_done (by kernel_rfl) ?_ _
          go_wp2
          go_ret
          exact ⟨rfl, bl_then LW.out (bl_then BB.out (by repeat (first | exact HR.out | refine bl_drewN ?_ _ | refine bl_drew ?_ | refine bl_alloc ?_ _)))⟩
end Go.Proofs.Ytlmnmlehnigfdaa
