/- DERIVED. The program's Max and Below of dots. -/
import Derived.Test.YtlmnmlehnigfdaaDvVec
import Derived.Test.YtlmnmlehnigfdaaDvWalk2
namespace Go.Proofs.Ytlmnmlehnigfdaa
open Go.RowKit
set_option linter.unusedVariables false
set_option linter.unusedSimpArgs false

theorem vmax_left {x : Dot} {a b : List Dot} (h : b = [] ∨ ∃ y b2, b = y :: b2 ∧ x.a < y.a) : vmax (x :: a) b = x :: vmax a b := by
  rcases h with rfl | ⟨y, b2, rfl, h⟩
  · rw [vmax_nil_right, vmax_nil_right]
  · rw [vmax, if_pos h]
theorem vmax_right {y : Dot} {a b : List Dot} (h : a = [] ∨ ∃ x a2, a = x :: a2 ∧ y.a < x.a) : vmax a (y :: b) = y :: vmax a b := by
  rcases h with rfl | ⟨x, a2, rfl, h⟩
  · rw [vmax_nil_left, vmax_nil_left]
  · rw [vmax, if_neg (by omega), if_pos h]
theorem vmax_both {x y : Dot} {a b : List Dot} (h : x.a = y.a) : vmax (x :: a) (y :: b) = ⟨x.a, max x.n y.n⟩ :: vmax a b := by rw [vmax, if_neg (by omega), if_neg (by omega)]

/-- What Max has at hand: the rest of both lists. -/
def MInv (w0 : World) (g : Nat) (a b : List Dot) (a1 b1 : List Dot) (w : World) : Prop :=
  ∃ v acc, GR.Blk w g 22 #[v] ∧ GR.Own dotK w w0.heap.size v acc ∧ acc ++ vmax a1 b1 = vmax a b ∧ acc.length + a1.length + b1.length ≤ 1000000 ∧ Below w0.heap.size w0 w

set_option maxHeartbeats 1600000 in
theorem walkM_any (w0 : World) (g : Nat) (A B : Option Addr) (c d : Nat) (a b : List Dot) (w : World) (ha : GR.Rd dotK w0 A a) (hb : GR.Rd dotK w0 B b) (hca : a.length ≤ c) (hcb : b.length ≤ d) (hg : w0.heap.size ≤ g)
    (bg : GR.Blk w g 22 #[.slice none 0 0]) (hbl : Below w0.heap.size w0 w) (hlen : a.length + b.length ≤ 1000000) :
    Calls Try.prog 77 #[.slice A a.length c, .slice B b.length d, .func (.func 78) #[] #[], .func (.func 83) #[] #[.pointer (some ⟨g, 0, none⟩)]] w
      fun e w' => e = .returned (.tuple #[]) ∧ ∃ v, GR.Blk w' g 22 #[v] ∧ GR.Own dotK w' w0.heap.size v (vmax a b) ∧ Below w0.heap.size w0 w' := by
  refine (walkMax_any w0 g A B c d a b w (MInv w0 g a b) ha hb hca hcb (fun _ _ _ h => by obtain ⟨_, _, _, _, _, _, h⟩ := h; exact h) ?_ ?_ ?_ ?_ ⟨_, [], bg, GR.Own.nil _ _ _, by simp, by simpa using hlen, hbl⟩).mono ?_
  · rintro a1 b1 w w' ⟨v, acc, h1, h2, h3, h4, h5⟩ hb
    exact ⟨v, acc, h1.below hb h1.lt, h2.below hb, h3, h4, h5.trans (hb.mono h5.size)⟩
  · rintro p x a1 b1 w hp c0 c1 hh ⟨v, acc, h1, h2, h3, h4, h5⟩
    refine (max_left w0.heap.size g v acc w p x hp c0 c1 hg h1 h2 (by simp only [List.length_cons] at h4; omega)).mono ?_
    rintro e w' ⟨he, ⟨v', b1', o1⟩, hb'⟩
    exact ⟨he, v', _, b1', o1, by rw [← h3, vmax_left hh]; simp, by simp only [List.length_append, List.length_cons, List.length_nil] at *; omega, h5.trans hb'⟩
  · rintro p y a1 b1 w hp c0 c1 hh ⟨v, acc, h1, h2, h3, h4, h5⟩
    refine (max_right w0.heap.size g v acc w p y hp c0 c1 hg h1 h2 (by simp only [List.length_cons] at h4; omega)).mono ?_
    rintro e w' ⟨he, ⟨v', b1', o1⟩, hb'⟩
    exact ⟨he, v', _, b1', o1, by rw [← h3, vmax_right hh]; simp, by simp only [List.length_append, List.length_cons, List.length_nil] at *; omega, h5.trans hb'⟩
  · rintro p q x y a1 b1 w hp c0 c1 hq d0 d1 hxy ⟨v, acc, h1, h2, h3, h4, h5⟩
    by_cases hn : y.n ≤ x.n
    · refine (max_both_x w0.heap.size g v acc w p x hp c0 c1 q y hq d0 d1 hn hg h1 h2 (by simp only [List.length_cons] at h4; omega)).mono ?_
      rintro e w' ⟨he, ⟨v', b1', o1⟩, hb'⟩
      refine ⟨he, v', _, b1', o1, ?_, by simp only [List.length_append, List.length_cons, List.length_nil] at *; omega, h5.trans hb'⟩
      rw [← h3, vmax_both hxy, show (⟨x.a, max x.n y.n⟩ : Dot) = x by cases x; simp only at hn ⊢; congr 1; omega]
      simp
    · refine (max_both_y w0.heap.size g v acc w p x hp c0 c1 q y hq d0 d1 (by omega) hg h1 h2 (by simp only [List.length_cons] at h4; omega)).mono ?_
      rintro e w' ⟨he, ⟨v', b1', o1⟩, hb'⟩
      refine ⟨he, v', _, b1', o1, ?_, by simp only [List.length_append, List.length_cons, List.length_nil] at *; omega, h5.trans hb'⟩
      rw [← h3, vmax_both hxy, show (⟨x.a, max x.n y.n⟩ : Dot) = y by cases x; cases y; simp only at hn hxy ⊢; subst hxy; congr 1; omega]
      simp
  · rintro e w' ⟨he, v, acc, h1, h2, h3, h4, h5⟩
    rw [vmax_nil_left, List.append_nil] at h3
    subst h3
    exact ⟨he, v, h1, h2, h5⟩

theorem ret_vi {v : Value} {a b : Int} (h : a = b) : Ending.returned (.tuple #[v, .int .i64 a]) = .returned (.tuple #[v, .int .i64 b]) := by rw [h]
set_option maxRecDepth 100000 in
set_option maxHeartbeats 3200000 in
theorem max_any (A B : Option Addr) (c d : Nat) (a b : List Dot) (w : World) (ha : GR.Rd dotK w A a) (hb : GR.Rd dotK w B b) (hca : a.length ≤ c) (hcb : b.length ≤ d) (na : ∀ d ∈ a, 0 ≤ d.n) (nb : ∀ d ∈ b, 0 ≤ d.n) :
    Calls Try.prog 44 #[.slice A a.length c, .slice B b.length d] w fun e w' => ∃ v, e = .returned (.tuple #[v, .int .i64 (maxE a b)]) ∧ GR.Own dotK w' w.heap.size v (maxL a b) ∧ Below w.heap.size w w' := by
  have HA := Lib.hid ha
  have HB := Lib.hid hb
  have NA := Lib.hid na
  have NB := Lib.hid nb
  clear ha hb na nb
  by_cases h1 : vecB a = true
  · by_cases h2 : vecB b = true
    · have hlen : a.length + b.length ≤ 1000000 := by have := vec_len h1; have := vec_len h2; omega
      have hml := vmax_len a b
      have HS := Lib.hid (show (vmax a b).length * 16 ≤ 140737488355328 by omega)
      have HE := Lib.hid (show (maxE a b = if (vmax a b).length ≤ 64 then 0 else 82) by simp [maxE, h1, h2])
      go_enter Try.func44, Try.ntmps44
      go_wp2_with fail
      refine (vecValid_any _ _ _ _ HA.out NA.out).mono ?_
      rintro e w1 ⟨rfl, hb1⟩
      rw [h1]
      have B1 := Lib.hid hb1
      clear hb1
      go_wp2_with fail
      refine (vecValid_any _ _ _ _ (HB.out.below B1.out) NB.out).mono ?_
      rintro e w2 ⟨rfl, hb2⟩
      rw [h2]
      have B2 := Lib.hid (bl_then B1.out hb2)
      clear hb2
      go_wp2_with fail
      refine (walkM_any w _ A B c d a b _ HA.out HB.out hca hcb ?_ (GR.Blk.new _ _ _) ?_ hlen).mono ?_
      · exact B2.out.size
      · exact bl_alloc B2.out _
      rintro e w3 ⟨rfl, v, hbk, ho, hbl⟩
      obtain ⟨Av, cv, rfl, hcv, _⟩ := ho.rd' HS.out
      have e0 := hbk.cell 0
      have HO := Lib.hid ho
      have HBL := Lib.hid hbl
      clear hbk ho hbl
      by_cases h64 : (vmax a b).length ≤ 64
      · have g0 : decide (64 < ((vmax a b).length : Int)) = false := by simp; omega
        have g1 : decide (64 < (vmax a b).length) = false := by simp; omega
        have HV := Lib.hid (show maxE a b = 0 ∧ maxL a b = vmax a b by rw [maxL, HE.out, if_pos h64]; exact ⟨rfl, rfl⟩)
        clear h64
        go_wp2
        go_ret2
        exact ⟨_, ret_vi HV.out.1.symm, by rw [HV.out.2]; exact HO.out, HBL.out⟩
      · have g0 : decide (64 < ((vmax a b).length : Int)) = true := by simp; omega
        have g1 : decide (64 < (vmax a b).length) = true := by simp; omega
        have HV := Lib.hid (show maxE a b = 82 ∧ maxL a b = [] by rw [maxL, HE.out, if_neg h64]; exact ⟨rfl, rfl⟩)
        clear h64
        go_wp2
        go_ret2
        exact ⟨_, ret_vi HV.out.1.symm, by rw [HV.out.2]; exact GR.Own.nil _ _ _, HBL.out⟩
    · have h2' : vecB b = false := by simpa using h2
      have HV := Lib.hid (show maxE a b = 100 ∧ maxL a b = [] by simp [maxL, maxE, h2'])
      clear h2
      go_enter Try.func44, Try.ntmps44
      go_wp2_with fail
      refine (vecValid_any _ _ _ _ HA.out NA.out).mono ?_
      rintro e w1 ⟨rfl, hb1⟩
      rw [h1]
      have B1 := Lib.hid hb1
      clear hb1
      go_wp2_with fail
      refine (vecValid_any _ _ _ _ (HB.out.below B1.out) NB.out).mono ?_
      rintro e w2 ⟨rfl, hb2⟩
      rw [h2']
      have B2 := Lib.hid (bl_then B1.out hb2)
      clear hb2
      go_wp2
      go_ret2
      exact ⟨_, ret_vi HV.out.1.symm, by rw [HV.out.2]; exact GR.Own.nil _ _ _, B2.out⟩
  · have h1' : vecB a = false := by simpa using h1
    have HV := Lib.hid (show maxE a b = 100 ∧ maxL a b = [] by simp [maxL, maxE, h1'])
    clear h1
    go_enter Try.func44, Try.ntmps44
    go_wp2_with fail
    refine (vecValid_any _ _ _ _ HA.out NA.out).mono ?_
    rintro e w1 ⟨rfl, hb1⟩
    rw [h1']
    have B1 := Lib.hid hb1
    clear hb1
    go_wp2
    go_ret2
    exact ⟨_, ret_vi HV.out.1.symm, by rw [HV.out.2]; exact GR.Own.nil _ _ _, B1.out⟩

/-- Below by going through both lists side by side. -/
def wbel : List Dot → List Dot → Bool
  | [], _ => true
  | _ :: _, [] => false
  | x :: a, y :: b =>
    if x.a < y.a then false
    else if y.a < x.a then wbel (x :: a) b
    else decide (x.n ≤ y.n) && wbel a b
termination_by a b => a.length + b.length
theorem wbel_left {x : Dot} {a b : List Dot} (h : b = [] ∨ ∃ y b2, b = y :: b2 ∧ x.a < y.a) : wbel (x :: a) b = false := by
  rcases h with rfl | ⟨y, b2, rfl, h⟩
  · rw [wbel]
  · rw [wbel, if_pos h]
theorem wbel_right {y : Dot} {a b : List Dot} (h : a = [] ∨ ∃ x a2, a = x :: a2 ∧ y.a < x.a) : wbel a (y :: b) = wbel a b := by
  rcases h with rfl | ⟨x, a2, rfl, h⟩
  · rw [wbel, wbel]
  · rw [wbel, if_neg (by omega), if_pos h]
theorem wbel_both {x y : Dot} {a b : List Dot} (h : x.a = y.a) : wbel (x :: a) (y :: b) = (decide (x.n ≤ y.n) && wbel a b) := by rw [wbel, if_neg (by omega), if_neg (by omega)]
theorem wbel_all : ∀ (a b : List Dot), Ris a → Ris b → (∀ d ∈ a, 1 ≤ d.n) → wbel a b = a.all fun d => decide (d.n ≤ look b d.a)
  | [], _, _, _, _ => by rw [wbel]; rfl
  | x :: a, [], _, _, pa => by
    have := pa x (by simp)
    rw [wbel, List.all_cons, look]
    simp; omega
  | x :: a, y :: b, ha, hb, pa => by
    have q1 := List.pairwise_cons.1 ha
    have q2 := List.pairwise_cons.1 hb
    have px := pa x (by simp)
    have pa2 : ∀ d ∈ a, 1 ≤ d.n := fun d hd => pa d (List.mem_cons_of_mem _ hd)
    rw [wbel]
    split
    · rename_i h1
      have : look (y :: b) x.a = 0 := look_none (fun d hd => by
        rcases List.mem_cons.1 hd with rfl | hd
        · omega
        · have := q2.1 d hd; omega)
      rw [List.all_cons, this]
      simp; omega
    · split
      · rename_i h1 h2
        rw [wbel_all (x :: a) b ha q2.2 pa]
        have hl : ∀ d ∈ x :: a, look (y :: b) d.a = look b d.a := fun d hd => by
          rw [look, if_neg]
          rcases List.mem_cons.1 hd with rfl | hd
          · omega
          · have := q1.1 d hd; omega
        rw [Bool.eq_iff_iff, List.all_eq_true, List.all_eq_true]
        exact ⟨fun h d hd => by rw [hl d hd]; exact h d hd, fun h d hd => by rw [← hl d hd]; exact h d hd⟩
      · rename_i h1 h2
        have hxy : x.a = y.a := by omega
        rw [wbel_all a b q1.2 q2.2 pa2, List.all_cons, look, if_pos hxy.symm]
        congr 1
        have hl : ∀ d ∈ a, look (y :: b) d.a = look b d.a := fun d hd => by
          have := q1.1 d hd
          rw [look, if_neg (by omega)]
        rw [Bool.eq_iff_iff, List.all_eq_true, List.all_eq_true]
        exact ⟨fun h d hd => by rw [hl d hd]; exact h d hd, fun h d hd => by rw [← hl d hd]; exact h d hd⟩
termination_by a b => a.length + b.length
theorem vbel_eq {a b : List Dot} (ha : vecB a = true) (hb : vecB b = true) : vbel a b = wbel a b := by
  rw [wbel_all a b (vec_ris ha) (vec_ris hb) (fun d hd => (vec_ok ha d hd).1)]
  simp [vbel, ha, hb]

def BInv (w0 : World) (g : Nat) (r : Bool) (a1 b1 : List Dot) (w : World) : Prop :=
  ∃ t : Bool, GR.Blk w g 4 #[.bool t] ∧ (t && wbel a1 b1) = r ∧ Below w0.heap.size w0 w
set_option maxHeartbeats 1600000 in
theorem walkB_any (w0 : World) (g : Nat) (A B : Option Addr) (c d : Nat) (a b : List Dot) (w : World) (ha : GR.Rd dotK w0 A a) (hb : GR.Rd dotK w0 B b) (hca : a.length ≤ c) (hcb : b.length ≤ d) (hg : w0.heap.size ≤ g)
    (bg : GR.Blk w g 4 #[.bool true]) (hbl : Below w0.heap.size w0 w) :
    Calls Try.prog 77 #[.slice A a.length c, .slice B b.length d, .func (.func 78) #[] #[], .func (.func 79) #[] #[.pointer (some ⟨g, 0, none⟩)]] w
      fun e w' => e = .returned (.tuple #[]) ∧ GR.Blk w' g 4 #[.bool (wbel a b)] ∧ Below w0.heap.size w0 w' := by
  refine (walkBel_any w0 g A B c d a b w (BInv w0 g (wbel a b)) ha hb hca hcb (fun _ _ _ h => by obtain ⟨_, _, _, h⟩ := h; exact h) ?_ ?_ ?_ ?_ ⟨true, bg, by simp, hbl⟩).mono ?_
  · rintro a1 b1 w w' ⟨t, h1, h3, h5⟩ hb
    exact ⟨t, h1.below hb h1.lt, h3, h5.trans (hb.mono h5.size)⟩
  · rintro p x a1 b1 w hp c0 c1 hh ⟨t, h1, h3, h5⟩
    refine (bel_left w0.heap.size g t w p x hp c0 c1 hg h1).mono ?_
    rintro e w' ⟨he, b1', hb'⟩
    exact ⟨he, false, b1', by rw [← h3, wbel_left hh]; simp, h5.trans hb'⟩
  · rintro p y a1 b1 w hp c0 c1 hh ⟨t, h1, h3, h5⟩
    refine (bel_right w0.heap.size g t w p y hp c0 c1 hg h1).mono ?_
    rintro e w' ⟨he, b1', hb'⟩
    exact ⟨he, t, b1', by rw [← h3, wbel_right hh], h5.trans hb'⟩
  · rintro p q x y a1 b1 w hp c0 c1 hq d0 d1 hxy ⟨t, h1, h3, h5⟩
    by_cases he : x = y
    · refine (bel_same w0.heap.size g t w p x hp c0 c1 q y hq d0 d1 he hg h1).mono ?_
      rintro e w' ⟨he', b1', hb'⟩
      exact ⟨he', t, b1', by rw [← h3, wbel_both hxy, he]; simp, h5.trans hb'⟩
    · by_cases hn : y.n < x.n
      · refine (bel_more w0.heap.size g t w p x hp c0 c1 q y hq d0 d1 he hn hg h1).mono ?_
        rintro e w' ⟨he', b1', hb'⟩
        exact ⟨he', false, b1', by rw [← h3, wbel_both hxy, show decide (x.n ≤ y.n) = false by simp; omega]; simp, h5.trans hb'⟩
      · refine (bel_less w0.heap.size g t w p x hp c0 c1 q y hq d0 d1 he (by omega) hg h1).mono ?_
        rintro e w' ⟨he', b1', hb'⟩
        exact ⟨he', t, b1', by rw [← h3, wbel_both hxy, show decide (x.n ≤ y.n) = true by simp; omega]; simp, h5.trans hb'⟩
  · rintro e w' ⟨he, t, h1, h3, h5⟩
    rw [wbel, Bool.and_true] at h3
    subst h3
    exact ⟨he, h1, h5⟩
set_option maxRecDepth 100000 in
set_option maxHeartbeats 3200000 in
theorem below_any (A B : Option Addr) (c d : Nat) (a b : List Dot) (w : World) (ha : GR.Rd dotK w A a) (hb : GR.Rd dotK w B b) (hca : a.length ≤ c) (hcb : b.length ≤ d) (na : ∀ d ∈ a, 0 ≤ d.n) (nb : ∀ d ∈ b, 0 ≤ d.n) :
    Calls Try.prog 36 #[.slice A a.length c, .slice B b.length d] w fun e w' => e = .returned (.bool (vbel a b)) ∧ Below w.heap.size w w' := by
  have HA := Lib.hid ha
  have HB := Lib.hid hb
  have NA := Lib.hid na
  have NB := Lib.hid nb
  clear ha hb na nb
  by_cases h1 : vecB a = true
  · by_cases h2 : vecB b = true
    · have HE := Lib.hid (vbel_eq h1 h2)
      go_enter Try.func36, Try.ntmps36
      go_wp2_with fail
      refine (vecValid_any _ _ _ _ HA.out NA.out).mono ?_
      rintro e w1 ⟨rfl, hb1⟩
      rw [h1]
      have B1 := Lib.hid hb1
      clear hb1
      go_wp2_with fail
      refine (vecValid_any _ _ _ _ (HB.out.below B1.out) NB.out).mono ?_
      rintro e w2 ⟨rfl, hb2⟩
      rw [h2]
      have B2 := Lib.hid (bl_then B1.out hb2)
      clear hb2
      go_wp2_with fail
      refine (walkB_any w _ A B c d a b _ HA.out HB.out hca hcb ?_ (GR.Blk.new _ _ _) ?_).mono ?_
      · exact B2.out.size
      · exact bl_alloc B2.out _
      rintro e w3 ⟨rfl, hbk, hbl⟩
      have e0 := hbk.cell 0
      have HBL := Lib.hid hbl
      clear hbk hbl
      go_wp2
      go_ret
      exact ⟨ret_bool HE.out.symm, HBL.out⟩
    · have h2' : vecB b = false := by simpa using h2
      have HE := Lib.hid (show vbel a b = false by simp [vbel, h2'])
      clear h2
      go_enter Try.func36, Try.ntmps36
      go_wp2_with fail
      refine (vecValid_any _ _ _ _ HA.out NA.out).mono ?_
      rintro e w1 ⟨rfl, hb1⟩
      rw [h1]
      have B1 := Lib.hid hb1
      clear hb1
      go_wp2_with fail
      refine (vecValid_any _ _ _ _ (HB.out.below B1.out) NB.out).mono ?_
      rintro e w2 ⟨rfl, hb2⟩
      rw [h2']
      have B2 := Lib.hid (bl_then B1.out hb2)
      clear hb2
      go_wp2
      go_ret
      exact ⟨ret_bool HE.out.symm, bl_alloc B2.out _⟩
  · have h1' : vecB a = false := by simpa using h1
    have HE := Lib.hid (show vbel a b = false by simp [vbel, h1'])
    clear h1
    go_enter Try.func36, Try.ntmps36
    go_wp2_with fail
    refine (vecValid_any _ _ _ _ HA.out NA.out).mono ?_
    rintro e w1 ⟨rfl, hb1⟩
    rw [h1']
    have B1 := Lib.hid hb1
    clear hb1
    go_wp2
    go_ret
    exact ⟨ret_bool HE.out.symm, bl_alloc B1.out _⟩
end Go.Proofs.Ytlmnmlehnigfdaa
