/- DERIVED. Contracts of chapter 13 with their answers named, for the walks of the laws. Chapter 13's own helper kept: what was lent is as it was, and the marks behind its lists. -/
import Derived.Test.YtljfigikkajlnaaVDvSame
import Derived.Test.YtljfigikkajlnaaVObTwin
import Derived.Test.YtljfigikkajlnaaVm4
import Derived.Laws.Strings3
namespace Go.Proofs.Ytljfigikkajlnaa
open Go.RowKit Go.Lib Go.Proofs.YtljfigikkajlnaaW.PrintWords
set_option linter.unusedVariables false
set_option linter.unusedSimpArgs false
attribute [local go_sem high] eqD eqCell
theorem rd_take {α : Type} {K : GR.Kind α} {w : World} {B g n c : Nat} {l m : List α} (h : GR.Own K w B (.slice (some ⟨g, 0, none⟩) n c) (l ++ m)) (hb : l.length * K.b ≤ 140737488355328) : GR.Rd K w (some ⟨g, 0, none⟩) l := (h.take.rd hb).2.2
theorem own_cap {α : Type} {K : GR.Kind α} {w : World} {B n c : Nat} {A : Option Addr} {l : List α} (h : GR.Own K w B (.slice A n c) l) : l.length ≤ c := by
  rcases h.2 with ⟨hv, h0⟩ | ⟨_, _, _, hv, h1, _⟩
  · rw [h0]; exact Nat.zero_le _
  · injection hv with _ _ h2; omega
def plN (k : ByteArray) : Int := if keyB k then placeI k else 0
def plE (k : ByteArray) : Int := if keyB k then 0 else 130
theorem place_any (k : ByteArray) (w : World) : Calls Try.prog 26 #[.string k] w fun e w' => e = .returned (.tuple #[.int .i64 (plN k), .int .i64 (plE k)]) ∧ Below w.heap.size w w' := by
  cases h : keyB k with
  | true =>
    refine (place_yes k h w).mono ?_
    rintro e w' ⟨rfl, hb⟩
    exact ⟨by rw [plN, plE, h]; rfl, hb⟩
  | false =>
    refine (place_no k h w).mono ?_
    rintro e w' ⟨rfl, rfl⟩
    exact ⟨by rw [plN, plE, h]; rfl, Below.refl _ _⟩
theorem okey_any (k : ByteArray) (w : World) : Calls Try.prog 27 #[.string k] w fun e w' => e = .returned (.int .i64 (plE k)) ∧ w = w' := by
  cases h : keyB k with
  | true =>
    refine (segKey_yes k h w).mono ?_
    rintro e w' ⟨rfl, rfl⟩
    exact ⟨by rw [plE, h]; rfl, rfl⟩
  | false =>
    refine (segKey_no k h w).mono ?_
    rintro e w' ⟨rfl, rfl⟩
    exact ⟨by rw [plE, h]; rfl, rfl⟩
section
variable {key : ByteArray} {A C : Option Addr} {n c m d : Nat} {a : List Dot} {l : List Sib} {w : World}
theorem packq (p1 p2 : ByteArray) (x : Int) (ha : GR.Rd dotK w A a) (hl : GR.Rd sibK w C l) (hn : n = a.length) (hm : m = l.length) (hr : StR a l) (hp : packC key a l = (p1, p2)) (hx : packE key a l = x) :
    Calls Try.prog 25 #[.agg #[.string key, .slice A n c, .slice C m d]] w fun e w' => e = .returned (.tuple #[.agg #[.string p1, .string p2], .int .i64 x]) ∧ Below w.heap.size w w' := by
  have h := pack_any key A C n c m d a l w ha hl hn hm hr
  rw [hp, hx] at h
  exact h
theorem checkq (x : Int) (ha : GR.Rd dotK w A a) (hl : GR.Rd sibK w C l) (hn : n = a.length) (hm : m = l.length) (hr : StR a l) (hx : chkE key a l = x) :
    Calls Try.prog 29 #[.agg #[.string key, .slice A n c, .slice C m d]] w fun e w' => e = .returned (.int .i64 x) ∧ Below w.heap.size w w' := by
  have h := check_any key A C n c m d a l w ha hl hn hm hr
  rw [hx] at h
  exact h
theorem formq (f : ByteArray) (x : Int) (ha : GR.Rd dotK w A a) (hl : GR.Rd sibK w C l) (hn : n = a.length) (hm : m = l.length) (hr : StR a l) (hf : formB key a l = f) (hx : chkE key a l = x) :
    Calls Try.prog 30 #[.agg #[.string key, .slice A n c, .slice C m d]] w fun e w' => e = .returned (.tuple #[.string f, .int .i64 x]) ∧ Below w.heap.size w w' := by
  have h := form_any key A C n c m d a l w ha hl hn hm hr
  rw [hf, hx] at h
  exact h
theorem placeq (x y : Int) (hx : plN key = x) (hy : plE key = y) : Calls Try.prog 26 #[.string key] w fun e w' => e = .returned (.tuple #[.int .i64 x, .int .i64 y]) ∧ Below w.heap.size w w' := by
  subst hx hy; exact place_any key w
theorem okeyq (y : Int) (hy : plE key = y) : Calls Try.prog 27 #[.string key] w fun e w' => e = .returned (.int .i64 y) ∧ Below w.heap.size w w' := by
  subst hy
  refine (okey_any key w).mono ?_
  rintro e w' ⟨rfl, rfl⟩
  exact ⟨rfl, Below.refl _ _⟩
end
section
variable {k1 k2 : ByteArray} {A B C D : Option Addr} {c1 c2 c3 c4 n1 n2 n3 n4 : Nat} {a b : List Dot} {l m : List Sib} {w : World}
theorem lsameq (r : Bool) (ha : GR.Rd dotK w A a) (hl : GR.Rd sibK w B l) (hb : GR.Rd dotK w C b) (hm : GR.Rd sibK w D m) (h1 : n1 = a.length) (h2 : n2 = l.length) (h3 : n3 = b.length) (h4 : n4 = m.length) (hr : (decide (k1 = k2) && stEq a l b m) = r) :
    Calls Try.prog 19 #[.agg #[.string k1, .slice A n1 c1, .slice B n2 c2], .agg #[.string k2, .slice C n3 c3, .slice D n4 c4]] w fun e w' => e = .returned (.bool r) ∧ Below w.heap.size w w' :=
  lsame_any k1 k2 A B C D c1 c2 c3 c4 n1 n2 n3 n4 a b l m r w ha hl hb hm h1 h2 h3 h4 hr
theorem osameq (r : Bool) (ha : GR.Rd dotK w A a) (hl : GR.Rd sibK w B l) (hb : GR.Rd dotK w C b) (hm : GR.Rd sibK w D m) (h1 : n1 = a.length) (h2 : n2 = l.length) (h3 : n3 = b.length) (h4 : n4 = m.length) (hr : (decide (k1 = k2) && stEq a l b m) = r) :
    Calls Try.prog 28 #[.agg #[.string k1, .slice A n1 c1, .slice B n2 c2], .agg #[.string k2, .slice C n3 c3, .slice D n4 c4]] w fun e w' => e = .returned (.bool r) ∧ Below w.heap.size w w' := by
  subst h1 h2 h3 h4 hr
  have L0 := Lib.hid ((Below.refl w.heap.size w).alloc (Nat.le_refl _) (.cells #[.string k1, .slice A a.length c1, .slice B l.length c2] 27))
  have L1 := Lib.hid (bl_alloc L0.out (.cells #[.string k2, .slice C b.length c3, .slice D m.length c4] 27))
  have HA := Lib.hid ha
  have HL := Lib.hid hl
  have HB := Lib.hid hb
  have HM := Lib.hid hm
  clear ha hl hb hm
  by_cases hk : k1 = k2
  · subst hk
    have HE : Hid ((decide (k1 = k1) && stEq a l b m) = stEq a l b m) := Lib.hid (by simp)
    have kk : (k1.toList == k1.toList) = true := by simp
    go_enter Try.func28, Try.ntmps28
    go_wp2_with (go_at_call 61; refine (dvvSame_any _ _ _ _ _ _ _ _ a b l m _ (HA.out.below L1.out) (HL.out.below L1.out) (HB.out.below L1.out) (HM.out.below L1.out)).mono ?_; rintro e w1 ⟨rfl, hb1⟩; have B1 := Lib.hid hb1; clear hb1)
    go_ret
    exact ⟨ret_bool HE.out.symm, bl_then L1.out B1.out⟩
  · have HE : Hid ((decide (k1 = k2) && stEq a l b m) = false) := Lib.hid (by simp [hk])
    have kk : (k1.toList == k2.toList) = false := by rw [str_eq]; simpa using hk
    clear hk
    go_enter Try.func28, Try.ntmps28
    go_wp2
    go_ret
    exact ⟨ret_bool HE.out.symm, L1.out⟩
end
end Go.Proofs.Ytljfigikkajlnaa
namespace Go.Proofs.Ytljfigikkajlnaa
open Go.RowKit Go.Lib
set_option linter.unusedVariables false
set_option linter.unusedSimpArgs false
theorem okself (k : ByteArray) (a : List Dot) (l : List Sib) : (decide (k = k) && stEq a l a l) = true := by simp [stEq]
set_option maxRecDepth 100000 in
set_option maxHeartbeats 6400000 in
theorem kept_any (B0 : Nat) (key : ByteArray) (g1 g2 c1 c2 : Nat) (A B : Option Addr) (c d : Nat) (a : List Dot) (l : List Sib) (w : World) (ho : OwnS w B0 (.slice (some ⟨g1, 0, none⟩) (a.length + 1) c1) (.slice (some ⟨g2, 0, none⟩) (l.length + 1) c2) (a ++ [mkD]) (l ++ [mkS])) (ha : GR.Rd dotK w A a) (hl : GR.Rd sibK w B l)
    (sa : a.length * 16 ≤ 140737488351232) (sl : l.length * 40 ≤ 140737488351232) :
    Calls Try.prog 13 #[.agg #[.string key, .slice (some ⟨g1, 0, none⟩) a.length c1, .slice (some ⟨g2, 0, none⟩) l.length c2], .agg #[.string key, .slice A a.length c, .slice B l.length d]] w fun e w' => e = .returned (.bool true) ∧ Below w.heap.size w w' := by
  have k1 := own_cap ho.d
  have k2 := own_cap ho.s
  rw [List.length_append] at k1 k2
  have k1' : a.length + 1 ≤ c1 := k1
  have k2' : l.length + 1 ≤ c2 := k2
  have i1 : (0 : Int) ≤ (a.length : Int) + 1 := by omega
  have i2 : (a.length : Int) + 1 ≤ (c1 : Int) := by omega
  have i3 : IntKind.i64.wrap ((a.length : Int) + 1) = (a.length : Int) + 1 := IntWalk.i64_in _ (by omega)
  have i4 : ((a.length : Int) + 1).toNat = a.length + 1 := by omega
  have i5 : (0 : Int) ≤ (a.length : Int) := by omega
  have i6 : (a.length : Int) < (a.length : Int) + 1 := by omega
  have j1 : (0 : Int) ≤ (l.length : Int) + 1 := by omega
  have j2 : (l.length : Int) + 1 ≤ (c2 : Int) := by omega
  have j3 : IntKind.i64.wrap ((l.length : Int) + 1) = (l.length : Int) + 1 := IntWalk.i64_in _ (by omega)
  have j4 : ((l.length : Int) + 1).toNat = l.length + 1 := by omega
  have j5 : (0 : Int) ≤ (l.length : Int) := by omega
  have j6 : (l.length : Int) < (l.length : Int) + 1 := by omega
  have R1 := Lib.hid (rd_take ho.d (by show a.length * 16 ≤ _; omega))
  have R2 := Lib.hid (rd_take ho.s (by show l.length * 40 ≤ _; omega))
  have hc1 := GR.Own.cells ho.d a.length (by simp) 1 (.int .u64 1125899906842624) (by simp [dotK, mkD])
  have hc2 := GR.Own.cells ho.s l.length (by simp) 3 (.string ⟨#[109, 97, 114, 107]⟩) (by simp [sibK, mkS])
  have hx1 : w.cell? ⟨g1, a.length * 2 + 1, none⟩ = some (.int .u64 1125899906842624) := hc1.1
  have hx2 : w.cell? ⟨g2, l.length * 4 + 3, none⟩ = some (.string ⟨#[109, 97, 114, 107]⟩) := hc2.1
  have X1 := Lib.hid hx1
  have X2 := Lib.hid hx2
  clear hc1 hc2 hx1 hx2 k1 k2 k1' k2'
  have HO := Lib.hid ho
  have HA := Lib.hid ha
  have HL := Lib.hid hl
  clear ho ha hl
  go_enter Try.func13, Try.ntmps13
  go_wp2_with fail
  obtain ⟨W1, hW1⟩ : ∃ W1 : World, W1 = (w.alloc (.cells #[.string key, .slice (some ⟨g1, 0, none⟩) a.length c1, .slice (some ⟨g2, 0, none⟩) l.length c2] 27)).alloc (.cells #[.string key, .slice A a.length c, .slice B l.length d] 27) := ⟨_, rfl⟩
  rw [← hW1]
  have LW : Hid (Below w.heap.size w W1) := Lib.hid (by rw [hW1]; exact (by repeat (first | exact Below.refl _ _ | refine bl_drewN ?_ _ | refine bl_drew ?_ | refine bl_alloc ?_ _)))
  have XB : Hid (GR.Blk W1 (w.heap.size + 1) 27 #[.string key, .slice A a.length c, .slice B l.length d]) := Lib.hid (by rw [hW1]; exact new_at _ _ _ (by simp))
  clear hW1
  refine (lsameq true (R1.out.below LW.out) (R2.out.below LW.out) (HA.out.below LW.out) (HL.out.below LW.out) rfl rfl rfl rfl (okself _ _ _)).mono ?_
  rintro e w2 ⟨rfl, hb⟩
  have B2 := Lib.hid (bl_then LW.out hb)
  have XB2 := Lib.hid (XB.out.below hb XB.out.lt)
  have x1 : w2.cell? ⟨g1, a.length * 2 + 1, none⟩ = some (.int .u64 1125899906842624) := (B2.out.cell (p := ⟨g1, a.length * 2 + 1, none⟩) (World.block_lt_of_cell? w _ X1.out)).trans X1.out
  have x2 : w2.cell? ⟨g2, l.length * 4 + 3, none⟩ = some (.string ⟨#[109, 97, 114, 107]⟩) := (B2.out.cell (p := ⟨g2, l.length * 4 + 3, none⟩) (World.block_lt_of_cell? w _ X2.out)).trans X2.out
  have o1 : w2.cell? ⟨w.heap.size + 1, 1, none⟩ = some (.slice A a.length c) := XB2.out.cell 1
  have o2 : w2.cell? ⟨w.heap.size + 1, 2, none⟩ = some (.slice B l.length d) := XB2.out.cell 2
  clear hb
  go_wp2
  exact bodyPost_ret (v := .bool true) (by simp [results, Try.results13, go_sem]) rfl ⟨rfl, B2.out⟩
end Go.Proofs.Ytljfigikkajlnaa
