/- DERIVED. Contracts of chapter 13 with their answers named, for the walks of the laws. The document's Max and Below of any dots. Chapter 13's own helper kept: what was lent is as it was, and the marks behind its lists. ObjectAsks: the walk of the law. An object that came in, opened. -/
import Derived.Test.YtljfigikkajlnaaVm2
import Derived.Test.YtljfigikkajlnaaVm1
import Derived.Test.YtljfigikkajlnaaVm3
import Derived.Test.YtljfigikkajlnaaVm7
import Derived.Test.YtljfigikkajlnaaVDvEnc
import Derived.Test.YtljfigikkajlnaaVm9
import Derived.Test.YtljfigikkajlnaaVDvRefMax
import Derived.Test.YtljfigikkajlnaaVm11
import Derived.Test.YtljfigikkajlnaaVm6
import Derived.Test.YtljfigikkajlnaaVm4
import Derived.Test.YtljfigikkajlnaaVm8
import Derived.Test.YtljfigikkajlnaaVObTurn
import Derived.Test.YtljfigikkajlnaaVObTwin
import Derived.Laws.Cover3
import Derived.BigRegion
import Derived.Laws.Strings3
import Derived.BigQuiet
namespace Go.Proofs.Ytljfigikkajlnaa
open Go.RowKit Go.Lib Go.Proofs.YtljfigikkajlnaaW.PrintWords
set_option linter.unusedVariables false
set_option linter.unusedSimpArgs false
attribute [local go_sem high] eqD eqCell
theorem rd_take {α : Type} {K : GR.Kind α} {w : World} {B g n c : Nat} {l m : List α} (h : GR.Own K w B (.slice (some ⟨g, 0, none⟩) n c) (l ++ m)) (hb : l.length * K.b ≤ 140737488355328) : GR.Rd K w (some ⟨g, 0, none⟩) l := (h.take.rd hb).2.2
theorem own_cap {α : Type} {K : GR.Kind α} {w : World} {B n c : Nat} {A : Option Addr} {l : List α} (h : GR.Own K w B (.slice A n c) l) : l.length ≤ c := by
  rcases h.2 with ⟨hv, h0⟩ | ⟨_, _, _, hv, h1, _⟩
  · rw [h0]; exact Nat.zero_le _
  · injection hv with _ _ h2; omega
section
variable {key : ByteArray} {A C : Option Addr} {n c m d : Nat} {a : List Dot} {l : List Sib} {w : World}
theorem checkq (x : Int) (ha : GR.Rd dotK w A a) (hl : GR.Rd sibK w C l) (hn : n = a.length) (hm : m = l.length) (hr : StR a l) (hx : chkE key a l = x) :
    Calls Try.prog 29 #[.agg #[.string key, .slice A n c, .slice C m d]] w fun e w' => e = .returned (.int .i64 x) ∧ Below w.heap.size w w' := by
  have h := check_any key A C n c m d a l w ha hl hn hm hr
  rw [hx] at h
  exact h
end
section
variable {k1 k2 : ByteArray} {A B C D : Option Addr} {c1 c2 c3 c4 n1 n2 n3 n4 : Nat} {a b : List Dot} {l m : List Sib} {w : World}
theorem lsameq (r : Bool) (ha : GR.Rd dotK w A a) (hl : GR.Rd sibK w B l) (hb : GR.Rd dotK w C b) (hm : GR.Rd sibK w D m) (h1 : n1 = a.length) (h2 : n2 = l.length) (h3 : n3 = b.length) (h4 : n4 = m.length) (hr : (decide (k1 = k2) && stEq a l b m) = r) :
    Calls Try.prog 19 #[.agg #[.string k1, .slice A n1 c1, .slice B n2 c2], .agg #[.string k2, .slice C n3 c3, .slice D n4 c4]] w fun e w' => e = .returned (.bool r) ∧ Below w.heap.size w w' :=
  lsame_any k1 k2 A B C D c1 c2 c3 c4 n1 n2 n3 n4 a b l m r w ha hl hb hm h1 h2 h3 h4 hr
end
end Go.Proofs.Ytljfigikkajlnaa
namespace Go.Proofs.Ytljfigikkajlnaa
open Go.RowKit
set_option linter.unusedVariables false
set_option linter.unusedSimpArgs false
set_option maxRecDepth 100000 in
set_option maxHeartbeats 1600000 in
theorem refMax_any (A B : Option Addr) (c d : Nat) (a b : List Dot) (w : World) (ha : GR.Rd dotK w A a) (hb : GR.Rd dotK w B b) (na : ∀ d ∈ a, 0 ≤ d.n) (nb : ∀ d ∈ b, 0 ≤ d.n) :
    Calls Try.prog 69 #[.slice A a.length c, .slice B b.length d] w fun e w' => ∃ v, e = .returned (.tuple #[v, .int .i64 (maxE a b)]) ∧ GR.Own dotK w' w.heap.size v (maxL a b) ∧ Below w.heap.size w w' := by
  by_cases h1 : vecB a = true
  · by_cases h2 : vecB b = true
    · exact refMax_ok A B c d a b w ha hb h1 h2
    · have h2' : vecB b = false := by simpa using h2
      have HV := Lib.hid (show maxE a b = 100 ∧ maxL a b = [] by simp [maxL, maxE, h2'])
      have HA := Lib.hid ha
      have HB := Lib.hid hb
      have NA := Lib.hid na
      have NB := Lib.hid nb
      clear ha hb na nb
      clear h2
      go_enter Try.func69, Try.ntmps69
      go_wp2_with fail
      refine (refVec_any _ _ _ _ HA.out NA.out).mono ?_
      rintro e w1 ⟨rfl, ⟨n1, rfl⟩⟩
      rw [h1]
      go_wp2_with fail
      refine (refVec_any _ _ _ _ (HB.out.drewN _) NB.out).mono ?_
      rintro e w2 ⟨rfl, ⟨n2, rfl⟩⟩
      rw [h2']
      go_wp2
      go_ret2
      exact ⟨_, ret_vi HV.out.1.symm, by rw [HV.out.2]; exact GR.Own.nil _ _ _, (by repeat (first | exact Below.refl _ _ | refine bl_drewN ?_ _ | refine bl_drew ?_ | refine bl_alloc ?_ _))⟩
  · have h1' : vecB a = false := by simpa using h1
    have HV := Lib.hid (show maxE a b = 100 ∧ maxL a b = [] by simp [maxL, maxE, h1'])
    have HA := Lib.hid ha
    have HB := Lib.hid hb
    have NA := Lib.hid na
    have NB := Lib.hid nb
    clear ha hb na nb
    clear h1
    go_enter Try.func69, Try.ntmps69
    go_wp2_with fail
    refine (refVec_any _ _ _ _ HA.out NA.out).mono ?_
    rintro e w1 ⟨rfl, ⟨n1, rfl⟩⟩
    rw [h1']
    go_wp2
    go_ret2
    exact ⟨_, ret_vi HV.out.1.symm, by rw [HV.out.2]; exact GR.Own.nil _ _ _, (by repeat (first | exact Below.refl _ _ | refine bl_drewN ?_ _ | refine bl_drew ?_ | refine bl_alloc ?_ _))⟩
end Go.Proofs.Ytljfigikkajlnaa
namespace Go.Proofs.Ytljfigikkajlnaa
open Go.RowKit Go.Lib
set_option linter.unusedVariables false
set_option linter.unusedSimpArgs false
theorem okself (k : ByteArray) (a : List Dot) (l : List Sib) : (decide (k = k) && stEq a l a l) = true := by simp [stEq]
set_option maxRecDepth 100000 in
set_option maxHeartbeats 6400000 in
theorem kept_any (B0 : Nat) (key : ByteArray) (g1 g2 c1 c2 : Nat) (A B : Option Addr) (c d : Nat) (a : List Dot) (l : List Sib) (w : World) (ho : OwnS w B0 (.slice (some ⟨g1, 0, none⟩) (a.length + 1) c1) (.slice (some ⟨g2, 0, none⟩) (l.length + 1) c2) (a ++ [mkD]) (l ++ [mkS])) (ha : GR.Rd dotK w A a) (hl : GR.Rd sibK w B l)
    (sa : a.length * 16 ≤ 140737488351232) (sl : l.length * 40 ≤ 140737488351232) :
    Calls Try.prog 13 #[.agg #[.string key, .slice (some ⟨g1, 0, none⟩) a.length c1, .slice (some ⟨g2, 0, none⟩) l.length c2], .agg #[.string key, .slice A a.length c, .slice B l.length d]] w fun e w' => e = .returned (.bool true) ∧ Below w.heap.size w w' := by
  have k1 := own_cap ho.d
  have k2 := own_cap ho.s
  rw [List.length_append] at k1 k2
  have k1' : a.length + 1 ≤ c1 := k1
  have k2' : l.length + 1 ≤ c2 := k2
  have i1 : (0 : Int) ≤ (a.length : Int) + 1 := by omega
  have i2 : (a.length : Int) + 1 ≤ (c1 : Int) := by omega
  have i3 : IntKind.i64.wrap ((a.length : Int) + 1) = (a.length : Int) + 1 := IntWalk.i64_in _ (by omega)
  have i4 : ((a.length : Int) + 1).toNat = a.length + 1 := by omega
  have i5 : (0 : Int) ≤ (a.length : Int) := by omega
  have i6 : (a.length : Int) < (a.length : Int) + 1 := by omega
  have j1 : (0 : Int) ≤ (l.length : Int) + 1 := by omega
  have j2 : (l.length : Int) + 1 ≤ (c2 : Int) := by omega
  have j3 : IntKind.i64.wrap ((l.length : Int) + 1) = (l.length : Int) + 1 := IntWalk.i64_in _ (by omega)
  have j4 : ((l.length : Int) + 1).toNat = l.length + 1 := by omega
  have j5 : (0 : Int) ≤ (l.length : Int) := by omega
  have j6 : (l.length : Int) < (l.length : Int) + 1 := by omega
  have R1 := Lib.hid (rd_take ho.d (by show a.length * 16 ≤ _; omega))
  have R2 := Lib.hid (rd_take ho.s (by show l.length * 40 ≤ _; omega))
  have hc1 := GR.Own.cells ho.d a.length (by simp) 1 (.int .u64 1125899906842624) (by simp [dotK, mkD])
  have hc2 := GR.Own.cells ho.s l.length (by simp) 3 (.string ⟨#[109, 97, 114, 107]⟩) (by simp [sibK, mkS])
  have hx1 : w.cell? ⟨g1, a.length * 2 + 1, none⟩ = some (.int .u64 1125899906842624) := hc1.1
  have hx2 : w.cell? ⟨g2, l.length * 4 + 3, none⟩ = some (.string ⟨#[109, 97, 114, 107]⟩) := hc2.1
  have X1 := Lib.hid hx1
  have X2 := Lib.hid hx2
  clear hc1 hc2 hx1 hx2 k1 k2 k1' k2'
  have HO := Lib.hid ho
  have HA := Lib.hid ha
  have HL := Lib.hid hl
  clear ho ha hl
  go_enter Try.func13, Try.ntmps13
  go_wp2_with fail
  obtain ⟨W1, hW1⟩ : ∃ W1 : World, W1 = (w.alloc (.cells #[.string key, .slice (some ⟨g1, 0, none⟩) a.length c1, .slice (some ⟨g2, 0, none⟩) l.length c2] 27)).alloc (.cells #[.string key, .slice A a.length c, .slice B l.length d] 27) := ⟨_, rfl⟩
  rw [← hW1]
  have LW : Hid (Below w.heap.size w W1) := Lib.hid (by rw [hW1]; exact (by repeat (first | exact Below.refl _ _ | refine bl_drewN ?_ _ | refine bl_drew ?_ | refine bl_alloc ?_ _)))
  have XB : Hid (GR.Blk W1 (w.heap.size + 1) 27 #[.string key, .slice A a.length c, .slice B l.length d]) := Lib.hid (by rw [hW1]; exact new_at _ _ _ (by simp))
  clear hW1
  refine (lsameq true (R1.out.below LW.out) (R2.out.below LW.out) (HA.out.below LW.out) (HL.out.below LW.out) rfl rfl rfl rfl (okself _ _ _)).mono ?_
  rintro e w2 ⟨rfl, hb⟩
  have B2 := Lib.hid (bl_then LW.out hb)
  have XB2 := Lib.hid (XB.out.below hb XB.out.lt)
  have x1 : w2.cell? ⟨g1, a.length * 2 + 1, none⟩ = some (.int .u64 1125899906842624) := (B2.out.cell (p := ⟨g1, a.length * 2 + 1, none⟩) (World.block_lt_of_cell? w _ X1.out)).trans X1.out
  have x2 : w2.cell? ⟨g2, l.length * 4 + 3, none⟩ = some (.string ⟨#[109, 97, 114, 107]⟩) := (B2.out.cell (p := ⟨g2, l.length * 4 + 3, none⟩) (World.block_lt_of_cell? w _ X2.out)).trans X2.out
  have o1 : w2.cell? ⟨w.heap.size + 1, 1, none⟩ = some (.slice A a.length c) := XB2.out.cell 1
  have o2 : w2.cell? ⟨w.heap.size + 1, 2, none⟩ = some (.slice B l.length d) := XB2.out.cell 2
  clear hb
  go_wp2
  exact bodyPost_ret (v := .bool true) (by simp [results, Try.results13, go_sem]) rfl ⟨rfl, B2.out⟩
end Go.Proofs.Ytljfigikkajlnaa
namespace Go.Proofs.Ytljfigikkajlnaa
open Go.RowKit Go.Lib Go.Proofs.YtljfigikkajlnaaW.PrintWords
set_option linter.unusedVariables false
set_option linter.unusedSimpArgs false
attribute [local go_sem high] eqD eqCell
theorem turn_str {a : List Dot} {l : List Sib} (h : StR a l) : StR (a.map tD) (l.map tS) := by
  refine ⟨fun d hd => ?_, fun x hx => ?_⟩
  · obtain ⟨y, hy, rfl⟩ := List.mem_map.1 hd
    have := h.1 y hy
    refine ⟨?_, this.2.1, this.2.2⟩
    show 0 ≤ IntKind.u64.wrap (y.n + 1)
    rw [IntKind.wrap_u64]; omega
  · obtain ⟨y, hy, rfl⟩ := List.mem_map.1 hx
    have := h.2 y hy
    unfold tS
    split
    · exact this
    · exact this
end Go.Proofs.Ytljfigikkajlnaa
namespace Go.Proofs.Ytljfigikkajlnaa
open Go.RowKit Go.ChangeShapes Go.WideShapes Go.Deep
set_option linter.unusedVariables false
set_option linter.unusedSimpArgs false
section
variable {H : Type} {enc : TypeId × Value → H} {w : World} {base : Nat} {spare : Nat → Bool} {held : Bool}
def DotR (x : Dot) : Prop := 0 ≤ x.n ∧ x.n ≤ 18446744073709551615 ∧ 0 ≤ x.a ∧ x.a ≤ 4294967295
theorem str_of {a : List Dot} {l : List Sib} (h : ∀ x ∈ a, DotR x) (k : ∀ x ∈ l, DotR x.d) : StR a l := ⟨fun d hd => ⟨(h d hd).1, (h d hd).2.2.1, (h d hd).2.2.2⟩, fun d hd => ⟨(k d hd).1, (k d hd).2.2.1, (k d hd).2.2.2⟩⟩
end
end Go.Proofs.Ytljfigikkajlnaa
