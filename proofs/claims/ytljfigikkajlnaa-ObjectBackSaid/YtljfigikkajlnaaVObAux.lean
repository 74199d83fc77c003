/- DERIVED. Contracts of chapter 13 with their answers named, for the walks of the laws. -/
import Derived.Test.YtljfigikkajlnaaVm5
import Derived.Test.YtljfigikkajlnaaVDvSame
import Derived.Test.YtljfigikkajlnaaVObTwin
namespace Go.Proofs.Ytljfigikkajlnaa
open Go.RowKit Go.Lib Go.Proofs.YtljfigikkajlnaaW.PrintWords
set_option linter.unusedVariables false
set_option linter.unusedSimpArgs false
attribute [local go_sem high] eqD eqCell
theorem rd_take {α : Type} {K : GR.Kind α} {w : World} {B g n c : Nat} {l m : List α} (h : GR.Own K w B (.slice (some ⟨g, 0, none⟩) n c) (l ++ m)) (hb : l.length * K.b ≤ 140737488355328) : GR.Rd K w (some ⟨g, 0, none⟩) l := (h.take.rd hb).2.2
theorem own_cap {α : Type} {K : GR.Kind α} {w : World} {B n c : Nat} {A : Option Addr} {l : List α} (h : GR.Own K w B (.slice A n c) l) : l.length ≤ c := by
  rcases h.2 with ⟨hv, h0⟩ | ⟨_, _, _, hv, h1, _⟩
  · rw [h0]; exact Nat.zero_le _
  · injection hv with _ _ h2; omega
def plN (k : ByteArray) : Int := if keyB k then placeI k else 0
def plE (k : ByteArray) : Int := if keyB k then 0 else 130
theorem place_any (k : ByteArray) (w : World) : Calls Try.prog 26 #[.string k] w fun e w' => e = .returned (.tuple #[.int .i64 (plN k), .int .i64 (plE k)]) ∧ Below w.heap.size w w' := by
  cases h : keyB k with
  | true =>
    refine (place_yes k h w).mono ?_
    rintro e w' ⟨rfl, hb⟩
    exact ⟨by rw [plN, plE, h]; rfl, hb⟩
  | false =>
    refine (place_no k h w).mono ?_
    rintro e w' ⟨rfl, rfl⟩
    exact ⟨by rw [plN, plE, h]; rfl, Below.refl _ _⟩
/-- A twin whose marks are of no matter. -/
theorem twinR_any (key : ByteArray) (A B : Option Addr) (c d : Nat) (a : List Dot) (l : List Sib) (w : World) (ha : GR.Rd dotK w A a) (hl : GR.Rd sibK w B l) (sa : a.length * 16 ≤ 140737488351232) (sl : l.length * 40 ≤ 140737488351232) :
    Calls Try.prog 10 #[.agg #[.string key, .slice A a.length c, .slice B l.length d]] w fun e w' => ∃ (A' B' : Option Addr) (c1 c2 : Nat), e = .returned (.agg #[.string key, .slice A' a.length c1, .slice B' l.length c2]) ∧
      GR.Rd dotK w' A' a ∧ GR.Rd sibK w' B' l ∧ a.length ≤ c1 ∧ l.length ≤ c2 ∧ Below w.heap.size w w' := by
  refine (obTwin_any key A B c d a l w ha hl sa sl).mono ?_
  rintro e w3 ⟨g1, d1, g2, d2, rfl, ho, hb⟩
  have k1 := own_cap ho.d
  have k2 := own_cap ho.s
  rw [List.length_append] at k1 k2
  exact ⟨_, _, _, _, rfl, rd_take ho.d (by show a.length * 16 ≤ _; omega), rd_take ho.s (by show l.length * 40 ≤ _; omega), Nat.le_trans (Nat.le_add_right _ _) k1, Nat.le_trans (Nat.le_add_right _ _) k2, hb⟩
section
variable {key : ByteArray} {A C : Option Addr} {n c m d : Nat} {a : List Dot} {l : List Sib} {w : World}
theorem packq (p1 p2 : ByteArray) (x : Int) (ha : GR.Rd dotK w A a) (hl : GR.Rd sibK w C l) (hn : n = a.length) (hm : m = l.length) (hr : StR a l) (hp : packC key a l = (p1, p2)) (hx : packE key a l = x) :
    Calls Try.prog 25 #[.agg #[.string key, .slice A n c, .slice C m d]] w fun e w' => e = .returned (.tuple #[.agg #[.string p1, .string p2], .int .i64 x]) ∧ Below w.heap.size w w' := by
  have h := pack_any key A C n c m d a l w ha hl hn hm hr
  rw [hp, hx] at h
  exact h
theorem checkq (x : Int) (ha : GR.Rd dotK w A a) (hl : GR.Rd sibK w C l) (hn : n = a.length) (hm : m = l.length) (hr : StR a l) (hx : chkE key a l = x) :
    Calls Try.prog 29 #[.agg #[.string key, .slice A n c, .slice C m d]] w fun e w' => e = .returned (.int .i64 x) ∧ Below w.heap.size w w' := by
  have h := check_any key A C n c m d a l w ha hl hn hm hr
  rw [hx] at h
  exact h
theorem placeq (x y : Int) (hx : plN key = x) (hy : plE key = y) : Calls Try.prog 26 #[.string key] w fun e w' => e = .returned (.tuple #[.int .i64 x, .int .i64 y]) ∧ Below w.heap.size w w' := by
  subst hx hy; exact place_any key w
theorem unpq (k v key : ByteArray) (a : List Dot) (l : List Sib) (x : Int) (hk : k.size ≤ 140737488355328) (hv : v.size ≤ 140737488355328) (h0 : unpK k v = key) (h1 : unpA k v = a) (h2 : unpL k v = l) (h3 : unpE k v = x) (sa : a.length * 16 ≤ 140737488355328) (sl : l.length * 40 ≤ 140737488355328) :
    Calls Try.prog 22 #[.agg #[.string k, .string v]] w fun e w' => ∃ (A B : Option Addr) (c d : Nat), e = .returned (.tuple #[.agg #[.string key, .slice A a.length c, .slice B l.length d], .int .i64 x]) ∧ GR.Rd dotK w' A a ∧ GR.Rd sibK w' B l ∧ Below w.heap.size w w' := by
  subst h0 h1 h2 h3
  refine (unpack_any k v w hk hv).mono ?_
  rintro e w' ⟨v1, v2, rfl, ho, hb⟩
  obtain ⟨A1, n1, k1, rfl⟩ := own_slice ho.d sa
  obtain ⟨A2, n2, k2, rfl⟩ := own_slice ho.s sl
  obtain rfl := own_n' ho.d
  obtain rfl := own_n' ho.s
  exact ⟨_, _, _, _, rfl, (ho.d.rd sa).2.2, (ho.s.rd sl).2.2, hb⟩
end
section
variable {k1 k2 : ByteArray} {A B C D : Option Addr} {c1 c2 c3 c4 n1 n2 n3 n4 : Nat} {a b : List Dot} {l m : List Sib} {w : World}
theorem lsameq (r : Bool) (ha : GR.Rd dotK w A a) (hl : GR.Rd sibK w B l) (hb : GR.Rd dotK w C b) (hm : GR.Rd sibK w D m) (h1 : n1 = a.length) (h2 : n2 = l.length) (h3 : n3 = b.length) (h4 : n4 = m.length) (hr : (decide (k1 = k2) && stEq a l b m) = r) :
    Calls Try.prog 19 #[.agg #[.string k1, .slice A n1 c1, .slice B n2 c2], .agg #[.string k2, .slice C n3 c3, .slice D n4 c4]] w fun e w' => e = .returned (.bool r) ∧ Below w.heap.size w w' :=
  lsame_any k1 k2 A B C D c1 c2 c3 c4 n1 n2 n3 n4 a b l m r w ha hl hb hm h1 h2 h3 h4 hr
theorem osameq (r : Bool) (ha : GR.Rd dotK w A a) (hl : GR.Rd sibK w B l) (hb : GR.Rd dotK w C b) (hm : GR.Rd sibK w D m) (h1 : n1 = a.length) (h2 : n2 = l.length) (h3 : n3 = b.length) (h4 : n4 = m.length) (hr : (decide (k1 = k2) && stEq a l b m) = r) :
    Calls Try.prog 28 #[.agg #[.string k1, .slice A n1 c1, .slice B n2 c2], .agg #[.string k2, .slice C n3 c3, .slice D n4 c4]] w fun e w' => e = .returned (.bool r) ∧ Below w.heap.size w w' := by
  subst h1 h2 h3 h4 hr
  have L0 := Lib.hid ((Below.refl w.heap.size w).alloc (Nat.le_refl _) (.cells #[.string k1, .slice A a.length c1, .slice B l.length c2] 27))
  have L1 := Lib.hid (bl_alloc L0.out (.cells #[.string k2, .slice C b.length c3, .slice D m.length c4] 27))
  have HA := Lib.hid ha
  have HL := Lib.hid hl
  have HB := Lib.hid hb
  have HM := Lib.hid hm
  clear ha hl hb hm
  by_cases hk : k1 = k2
  · subst hk
    have HE : Hid ((decide (k1 = k1) && stEq a l b m) = stEq a l b m) := Lib.hid (by simp)
    have kk : (k1.toList == k1.toList) = true := by simp
    go_enter Try.func28, Try.ntmps28
    go_wp2_with (go_at_call 61; refine (dvvSame_any _ _ _ _ _ _ _ _ a b l m _ (HA.out.below L1.out) (HL.out.below L1.out) (HB.out.below L1.out) (HM.out.below L1.out)).mono ?_; rintro e w1 ⟨rfl, hb1⟩; have B1 := Lib.hid hb1; clear hb1)
    go_ret
    exact ⟨ret_bool HE.out.symm, bl_then L1.out B1.out⟩
  · have HE : Hid ((decide (k1 = k2) && stEq a l b m) = false) := Lib.hid (by simp [hk])
    have kk : (k1.toList == k2.toList) = false := by rw [str_eq]; simpa using hk
    clear hk
    go_enter Try.func28, Try.ntmps28
    go_wp2
    go_ret
    exact ⟨ret_bool HE.out.symm, L1.out⟩
end
end Go.Proofs.Ytljfigikkajlnaa
