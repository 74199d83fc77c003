/- DERIVED. The program's Max and Below of dots. -/
import Derived.Test.YtljfigikkajlnaaVm5
import Derived.Test.YtljfigikkajlnaaVDvWalk
import Derived.Test.YtljfigikkajlnaaVDvWalk2
namespace Go.Proofs.Ytljfigikkajlnaa
open Go.RowKit
set_option linter.unusedVariables false
set_option linter.unusedSimpArgs false
theorem vmax_left {x : Dot} {a b : List Dot} (h : b = [] ∨ ∃ y b2, b = y :: b2 ∧ x.a < y.a) : vmax (x :: a) b = x :: vmax a b := by
  rcases h with rfl | ⟨y, b2, rfl, h⟩
  · rw [vmax_nil_right, vmax_nil_right]
  · rw [vmax, if_pos h]
theorem vmax_right {y : Dot} {a b : List Dot} (h : a = [] ∨ ∃ x a2, a = x :: a2 ∧ y.a < x.a) : vmax a (y :: b) = y :: vmax a b := by
  rcases h with rfl | ⟨x, a2, rfl, h⟩
  · rw [vmax_nil_left, vmax_nil_left]
  · rw [vmax, if_neg (by omega), if_pos h]
theorem vmax_both {x y : Dot} {a b : List Dot} (h : x.a = y.a) : vmax (x :: a) (y :: b) = ⟨x.a, max x.n y.n⟩ :: vmax a b := by rw [vmax, if_neg (by omega), if_neg (by omega)]
/-- What Max has at hand: the rest of both lists. -/
def MInv (w0 : World) (g : Nat) (a b : List Dot) (a1 b1 : List Dot) (w : World) : Prop :=
  ∃ v acc, GR.Blk w g 22 #[v] ∧ GR.Own dotK w w0.heap.size v acc ∧ acc ++ vmax a1 b1 = vmax a b ∧ acc.length + a1.length + b1.length ≤ 1000000 ∧ Below w0.heap.size w0 w
set_option maxHeartbeats 1600000 in
theorem walkM_any (w0 : World) (g : Nat) (A B : Option Addr) (c d : Nat) (a b : List Dot) (w : World) (ha : GR.Rd dotK w0 A a) (hb : GR.Rd dotK w0 B b) (hca : a.length ≤ c) (hcb : b.length ≤ d) (hg : w0.heap.size ≤ g)
    (bg : GR.Blk w g 22 #[.slice none 0 0]) (hbl : Below w0.heap.size w0 w) (hlen : a.length + b.length ≤ 1000000) :
    Calls Try.prog 110 #[.slice A a.length c, .slice B b.length d, .func (.func 111) #[] #[], .func (.func 112) #[] #[.pointer (some ⟨g, 0, none⟩)]] w
      fun e w' => e = .returned (.tuple #[]) ∧ ∃ v, GR.Blk w' g 22 #[v] ∧ GR.Own dotK w' w0.heap.size v (vmax a b) ∧ Below w0.heap.size w0 w' := by
  refine (walkMax_any w0 g A B c d a b w (MInv w0 g a b) ha hb hca hcb (fun _ _ _ h => by obtain ⟨_, _, _, _, _, _, h⟩ := h; exact h) ?_ ?_ ?_ ?_ ⟨_, [], bg, GR.Own.nil _ _ _, by simp, by simpa using hlen, hbl⟩).mono ?_
  · rintro a1 b1 w w' ⟨v, acc, h1, h2, h3, h4, h5⟩ hb
    exact ⟨v, acc, h1.below hb h1.lt, h2.below hb, h3, h4, h5.trans (hb.mono h5.size)⟩
  · rintro p x a1 b1 w hp c0 c1 hh ⟨v, acc, h1, h2, h3, h4, h5⟩
    refine (max_left w0.heap.size g v acc w p x hp c0 c1 hg h1 h2 (by simp only [List.length_cons] at h4; omega)).mono ?_
    rintro e w' ⟨he, ⟨v', b1', o1⟩, hb'⟩
    exact ⟨he, v', _, b1', o1, by rw [← h3, vmax_left hh]; simp, by simp only [List.length_append, List.length_cons, List.length_nil] at *; omega, h5.trans hb'⟩
  · rintro p y a1 b1 w hp c0 c1 hh ⟨v, acc, h1, h2, h3, h4, h5⟩
    refine (max_right w0.heap.size g v acc w p y hp c0 c1 hg h1 h2 (by simp only [List.length_cons] at h4; omega)).mono ?_
    rintro e w' ⟨he, ⟨v', b1', o1⟩, hb'⟩
    exact ⟨he, v', _, b1', o1, by rw [← h3, vmax_right hh]; simp, by simp only [List.length_append, List.length_cons, List.length_nil] at *; omega, h5.trans hb'⟩
  · rintro p q x y a1 b1 w hp c0 c1 hq d0 d1 hxy ⟨v, acc, h1, h2, h3, h4, h5⟩
    by_cases hn : y.n ≤ x.n
    · refine (max_both_x w0.heap.size g v acc w p x hp c0 c1 q y hq d0 d1 hn hg h1 h2 (by simp only [List.length_cons] at h4; omega)).mono ?_
      rintro e w' ⟨he, ⟨v', b1', o1⟩, hb'⟩
      refine ⟨he, v', _, b1', o1, ?_, by simp only [List.length_append, List.length_cons, List.length_nil] at *; omega, h5.trans hb'⟩
      rw [← h3, vmax_both hxy, show (⟨x.a, max x.n y.n⟩ : Dot) = x by cases x; simp only at hn ⊢; congr 1; omega]
      simp
    · refine (max_both_y w0.heap.size g v acc w p x hp c0 c1 q y hq d0 d1 (by omega) hg h1 h2 (by simp only [List.length_cons] at h4; omega)).mono ?_
      rintro e w' ⟨he, ⟨v', b1', o1⟩, hb'⟩
      refine ⟨he, v', _, b1', o1, ?_, by simp only [List.length_append, List.length_cons, List.length_nil] at *; omega, h5.trans hb'⟩
      rw [← h3, vmax_both hxy, show (⟨x.a, max x.n y.n⟩ : Dot) = y by cases x; cases y; simp only at hn hxy ⊢; subst hxy; congr 1; omega]
      simp
  · rintro e w' ⟨he, v, acc, h1, h2, h3, h4, h5⟩
    rw [vmax_nil_left, List.append_nil] at h3
    subst h3
    exact ⟨he, v, h1, h2, h5⟩
theorem ret_vi {v : Value} {a b : Int} (h : a = b) : Ending.returned (.tuple #[v, .int .i64 a]) = .returned (.tuple #[v, .int .i64 b]) := by rw [h]
set_option maxRecDepth 100000 in
set_option maxHeartbeats 3200000 in
theorem max_any (A B : Option Addr) (c d : Nat) (a b : List Dot) (w : World) (ha : GR.Rd dotK w A a) (hb : GR.Rd dotK w B b) (hca : a.length ≤ c) (hcb : b.length ≤ d) (na : ∀ d ∈ a, 0 ≤ d.n) (nb : ∀ d ∈ b, 0 ≤ d.n) :
    Calls Try.prog 74 #[.slice A a.length c, .slice B b.length d] w fun e w' => ∃ v, e = .returned (.tuple #[v, .int .i64 (maxE a b)]) ∧ GR.Own dotK w' w.heap.size v (maxL a b) ∧ Below w.heap.size w w' := by
  have HA := Lib.hid ha
  have HB := Lib.hid hb
  have NA := Lib.hid na
  have NB := Lib.hid nb
  clear ha hb na nb
  by_cases h1 : vecB a = true
  · by_cases h2 : vecB b = true
    · have hlen : a.length + b.length ≤ 1000000 := by have := vec_len h1; have := vec_len h2; omega
      have hml := vmax_len a b
      have HS := Lib.hid (show (vmax a b).length * 16 ≤ 140737488355328 by omega)
      have HE := Lib.hid (show (maxE a b = if (vmax a b).length ≤ 64 then 0 else 82) by simp [maxE, h1, h2])
      go_enter Try.func74, Try.ntmps74
      go_wp2_with fail
      refine (vecValid_any _ _ _ _ HA.out NA.out).mono ?_
      rintro e w1 ⟨rfl, hb1⟩
      rw [h1]
      have B1 := Lib.hid hb1
      clear hb1
      go_wp2_with fail
      refine (vecValid_any _ _ _ _ (HB.out.below B1.out) NB.out).mono ?_
      rintro e w2 ⟨rfl, hb2⟩
      rw [h2]
      have B2 := Lib.hid (bl_then B1.out hb2)
      clear hb2
      go_wp2_with fail
      refine (walkM_any w _ A B c d a b _ HA.out HB.out hca hcb ?_ (GR.Blk.new _ _ _) ?_ hlen).mono ?_
      · exact B2.out.size
      · exact bl_alloc B2.out _
      rintro e w3 ⟨rfl, v, hbk, ho, hbl⟩
      obtain ⟨Av, cv, rfl, hcv, _⟩ := ho.rd' HS.out
      have e0 := hbk.cell 0
      have HO := Lib.hid ho
      have HBL := Lib.hid hbl
      clear hbk ho hbl
      by_cases h64 : (vmax a b).length ≤ 64
      · have g0 : decide (64 < ((vmax a b).length : Int)) = false := by simp; omega
        have g1 : decide (64 < (vmax a b).length) = false := by simp; omega
        have HV := Lib.hid (show maxE a b = 0 ∧ maxL a b = vmax a b by rw [maxL, HE.out, if_pos h64]; exact ⟨rfl, rfl⟩)
        clear h64
        go_wp2
        go_ret2
        exact ⟨_, ret_vi HV.out.1.symm, by rw [HV.out.2]; exact HO.out, HBL.out⟩
      · have g0 : decide (64 < ((vmax a b).length : Int)) = true := by simp; omega
        have g1 : decide (64 < (vmax a b).length) = true := by simp; omega
        have HV := Lib.hid (show maxE a b = 82 ∧ maxL a b = [] by rw [maxL, HE.out, if_neg h64]; exact ⟨rfl, rfl⟩)
        clear h64
        go_wp2
        go_ret2
        exact ⟨_, ret_vi HV.out.1.symm, by rw [HV.out.2]; exact GR.Own.nil _ _ _, HBL.out⟩
    · have h2' : vecB b = false := by simpa using h2
      have HV := Lib.hid (show maxE a b = 100 ∧ maxL a b = [] by simp [maxL, maxE, h2'])
      clear h2
      go_enter Try.func74, Try.ntmps74
      go_wp2_with fail
      refine (vecValid_any _ _ _ _ HA.out NA.out).mono ?_
      rintro e w1 ⟨rfl, hb1⟩
      rw [h1]
      have B1 := Lib.hid hb1
      clear hb1
      go_wp2_with fail
      refine (vecValid_any _ _ _ _ (HB.out.below B1.out) NB.out).mono ?_
      rintro e w2 ⟨rfl, hb2⟩
      rw [h2']
      have B2 := Lib.hid (bl_then B1.out hb2)
      clear hb2
      go_wp2
      go_ret2
      exact ⟨_, ret_vi HV.out.1.symm, by rw [HV.out.2]; exact GR.Own.nil _ _ _, B2.out⟩
  · have h1' : vecB a = false := by simpa using h1
    have HV := Lib.hid (show maxE a b = 100 ∧ maxL a b = [] by simp [maxL, maxE, h1'])
    clear h1
    go_enter Try.func74, Try.ntmps74
    go_wp2_with fail
    refine (vecValid_any _ _ _ _ HA.out NA.out).mono ?_
    rintro e w1 ⟨rfl, hb1⟩
    rw [h1']
    have B1 := Lib.hid hb1
    clear hb1
    go_wp2
    go_ret2
    exact ⟨_, ret_vi HV.out.1.symm, by rw [HV.out.2]; exact GR.Own.nil _ _ _, B1.out⟩
end Go.Proofs.Ytljfigikkajlnaa
