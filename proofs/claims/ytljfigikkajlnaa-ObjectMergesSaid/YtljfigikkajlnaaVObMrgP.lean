/- DERIVED. Merging objects, plain: in any order. No program in sight. -/
import Derived.Test.YtljfigikkajlnaaVDvLat2
import Derived.Test.YtljfigikkajlnaaVObMrg
namespace Go.Proofs.Ytljfigikkajlnaa
open Go.RowKit Go.Lib
set_option linter.unusedVariables false
set_option linter.unusedSimpArgs false
section
variable {ka kb kc : ByteArray} {a b c : List Dot} {l m n : List Sib}
theorem omrg_zero (h : omrgE ka a l kb b m = 0) : chkE ka a l = 0 ∧ chkE kb b m = 0 ∧ ka = kb ∧ joinE a l b m = 0 ∧ chkE ka (joinA a l b m) (joinL a l b m) = 0 := by
 unfold omrgE at h
 by_cases h1 : chkE ka a l = 0
 · rw [if_pos h1] at h
   by_cases h2 : chkE kb b m = 0
   · rw [if_pos h2] at h
     by_cases h3 : ka = kb
     · rw [if_pos h3] at h
       by_cases h4 : joinE a l b m = 0
       · rw [if_pos h4] at h; exact ⟨h1, h2, h3, h4, h⟩
       · rw [if_neg h4] at h; exact absurd h h4
     · rw [if_neg h3] at h; exact absurd h (by decide)
   · rw [if_neg h2] at h; exact absurd h h2
 · rw [if_neg h1] at h; exact absurd h h1
theorem omrg_of (h1 : chkE ka a l = 0) (h2 : chkE kb b m = 0) (h3 : ka = kb) (h4 : joinE a l b m = 0) (h5 : chkE ka (joinA a l b m) (joinL a l b m) = 0) : omrgE ka a l kb b m = 0 := by
 rw [omrgE, if_pos h1, if_pos h2, if_pos h3, if_pos h4]; exact h5
theorem omrg_swap (h : omrgE ka a l kb b m = 0) : omrgE kb b m ka a l = 0 := by
 obtain ⟨h1, h2, h3, h4, h5⟩ := omrg_zero h
 obtain ⟨j1, j2, j3⟩ := join_comm a b l m
 refine omrg_of h2 h1 h3.symm (by rw [← j1]; exact h4) ?_
 rw [← j2, ← j3, ← h3]; exact h5
theorem omrg_comm (h : omrgE ka a l kb b m = 0) : omrgK ka a l kb b m = omrgK kb b m ka a l ∧ omrgA ka a l kb b m = omrgA kb b m ka a l ∧ omrgL ka a l kb b m = omrgL kb b m ka a l := by
 obtain ⟨_, k1, k2, k3⟩ := omrg_yes h
 obtain ⟨_, q1, q2, q3⟩ := omrg_yes (omrg_swap h)
 obtain ⟨j1, j2, j3⟩ := join_comm a b l m
 rw [k1, k2, k3, q1, q2, q3]
 exact ⟨(omrg_zero h).2.2.1, j2, j3⟩
theorem omrg_iff : (omrgE ka a l kb b m = 0) ↔ (omrgE kb b m ka a l = 0) := ⟨omrg_swap, omrg_swap⟩
theorem chk_vs (h : chkE ka a l = 0) : VS a l := (chk_cases h).2.1
theorem omrg_self : omrgE ka a l ka a l = chkE ka a l ∧ (chkE ka a l = 0 → omrgK ka a l ka a l = ka ∧ omrgA ka a l ka a l = a ∧ omrgL ka a l ka a l = l) := by
 by_cases h : chkE ka a l = 0
 · obtain ⟨j1, j2, j3⟩ := join_self (chk_vs h)
   have h0 : omrgE ka a l ka a l = 0 := omrg_of h h rfl j1 (by rw [j2, j3]; exact h)
   obtain ⟨_, k1, k2, k3⟩ := omrg_yes h0
   exact ⟨by rw [h0, h], fun _ => ⟨k1, by rw [k2, j2], by rw [k3, j3]⟩⟩
 · exact ⟨by rw [omrgE, if_neg h], fun e => absurd e h⟩
theorem chk_none (h : chkE ka a l = 0) : chkE ka [] [] = 0 := by
 have hk := (chk_cases h).1
 have hd : keyB ka = false ↔ False := by rw [hk]; simp
 have hs : encS [] [] = [0, 0] := by simp [encS, vecU, uintU_small]
 rw [chkE, hk, show staB [] [] = true from by decide, hs]; rfl
theorem omrg_none : omrgE ka a l ka [] [] = chkE ka a l ∧ (chkE ka a l = 0 → omrgK ka a l ka [] [] = ka ∧ omrgA ka a l ka [] [] = a ∧ omrgL ka a l ka [] [] = l) := by
 by_cases h : chkE ka a l = 0
 · obtain ⟨j1, j2, j3⟩ := join_nil (chk_vs h)
   have h0 : omrgE ka a l ka [] [] = 0 := omrg_of h (chk_none h) rfl j1 (by rw [j2, j3]; exact h)
   obtain ⟨_, k1, k2, k3⟩ := omrg_yes h0
   exact ⟨by rw [h0, h], fun _ => ⟨k1, by rw [k2, j2], by rw [k3, j3]⟩⟩
 · exact ⟨by rw [omrgE, if_neg h], fun e => absurd e h⟩
theorem vmax_left_len : ∀ a b : List Dot, a.length ≤ (vmax a b).length ∧ b.length ≤ (vmax a b).length
 | [], b => by rw [vmax]; simp
 | x :: a, [] => by rw [vmax]; simp
 | x :: a, y :: b => by
  rw [vmax]
  split
  · have := vmax_left_len a (y :: b)
    simp only [List.length_cons] at this ⊢
    omega
  · split
    · have := vmax_left_len (x :: a) b
      simp only [List.length_cons] at this ⊢
      omega
    · have := vmax_left_len a b
      simp only [List.length_cons] at this ⊢
      omega
termination_by a b => a.length + b.length
theorem omrg_len (h : omrgE ka a l kb b m = 0) : a.length ≤ (omrgA ka a l kb b m).length ∧ b.length ≤ (omrgA ka a l kb b m).length := by
 obtain ⟨_, k1, k2, k3⟩ := omrg_yes h
 rw [k2, joinA, if_pos (omrg_zero h).2.2.2.1]
 exact vmax_left_len a b
theorem omrg_assoc (h1 : omrgE ka a l kb b m = 0) (h3 : omrgE kb b m kc c n = 0) (h2 : omrgE ka (joinA a l b m) (joinL a l b m) kc c n = 0) (h4 : omrgE ka a l kb (joinA b m c n) (joinL b m c n) = 0) :
 (decide (ka = ka) && stEq (joinA (joinA a l b m) (joinL a l b m) c n) (joinL (joinA a l b m) (joinL a l b m) c n) (joinA a l (joinA b m c n) (joinL b m c n)) (joinL a l (joinA b m c n) (joinL b m c n))) = true := by
 rw [join_assoc (omrg_zero h1).2.2.2.1 (omrg_zero h2).2.2.2.1 (omrg_zero h3).2.2.2.1 (omrg_zero h4).2.2.2.1]
 simp
end
theorem mrgO {ka kb key : ByteArray} {A B C D : Option Addr} {c1 c2 c3 c4 n1 n2 n3 n4 : Nat} {a b : List Dot} {l m : List Sib} {w : World} (J : List Dot) (M : List Sib) (x : Int) (ha : GR.Rd dotK w A a) (hl : GR.Rd sibK w B l) (hb : GR.Rd dotK w C b) (hm : GR.Rd sibK w D m) (h1 : n1 = a.length) (h2 : n2 = l.length) (h3 : n3 = b.length) (h4 : n4 = m.length) (hca : a.length ≤ c1) (hcb : b.length ≤ c3) (hr : StR a l) (hs : StR b m)
 (e0 : omrgK ka a l kb b m = key) (e1 : omrgA ka a l kb b m = J) (e2 : omrgL ka a l kb b m = M) (e3 : omrgE ka a l kb b m = x) :
 Calls Try.prog 12 #[.agg #[.string ka, .slice A n1 c1, .slice B n2 c2], .agg #[.string kb, .slice C n3 c3, .slice D n4 c4]] w
  fun e w' => ∃ (A B : Option Addr) (c d : Nat), e = .returned (.tuple #[.agg #[.string key, .slice A J.length c, .slice B M.length d], .int .i64 x]) ∧ OwnS w' w.heap.size (.slice A J.length c) (.slice B M.length d) J M ∧ Below w.heap.size w w' := by
 subst h1 h2 h3 h4 e0 e1 e2 e3
 have sm := join_small a l b m
 have sz : (omrgA ka a l kb b m).length ≤ 64 ∧ (omrgL ka a l kb b m).length ≤ 64 := by
  unfold omrgA omrgL
  split
  · exact sm
  · simp
 have sa : (omrgA ka a l kb b m).length * 16 ≤ 140737488355328 := by omega
 have sl : (omrgL ka a l kb b m).length * 40 ≤ 140737488355328 := by omega
 refine (omrg_any ka kb A B C D c1 c2 c3 c4 a b l m w ha hl hb hm hca hcb hr hs).mono ?_
 rintro e w' ⟨v1, v2, rfl, ho, hb⟩
 obtain ⟨A1, n1, k1, rfl⟩ := own_slice ho.d sa
 obtain ⟨A2, n2, k2, rfl⟩ := own_slice ho.s sl
 obtain rfl := own_n' ho.d
 obtain rfl := own_n' ho.s
 exact ⟨_, _, _, _, rfl, ho, hb⟩
theorem ob_put {w : World} {B g : Nat} {x y u v z p q r : Value} {a : List Dot} {l : List Sib} (h : OwnS w B x y a l) (bg : GR.Blk w g 27 #[p, q, r]) :
 OwnS (((w.setCell ⟨g, 0, none⟩ u).setCell ⟨g, 1, none⟩ v).setCell ⟨g, 2, none⟩ z) B x y a l ∧ GR.Blk (((w.setCell ⟨g, 0, none⟩ u).setCell ⟨g, 1, none⟩ v).setCell ⟨g, 2, none⟩ z) g 27 #[u, v, z] :=
 ⟨⟨own_farI (own_farI (own_farI h.d bg 0 u (by decide)) (bg.set_ 0 u) 1 v (by decide)) ((bg.set_ 0 u).set_ 1 v) 2 z (by decide), own_farI (own_farI (own_farI h.s bg 0 u (by decide)) (bg.set_ 0 u) 1 v (by decide)) ((bg.set_ 0 u).set_ 1 v) 2 z (by decide)⟩, ((bg.set_ 0 u).set_ 1 v).set_ 2 z⟩
theorem mrg_small (ka : ByteArray) (a : List Dot) (l : List Sib) (kb : ByteArray) (b : List Dot) (m : List Sib) : (omrgA ka a l kb b m).length ≤ 64 ∧ (omrgL ka a l kb b m).length ≤ 64 := by
 have sm := join_small a l b m
 unfold omrgA omrgL
 split
 · exact sm
 · simp
theorem mrg_str {ka kb : ByteArray} {a b : List Dot} {l m : List Sib} (hs : StR a l) (ht : StR b m) : StR (omrgA ka a l kb b m) (omrgL ka a l kb b m) := by
 unfold omrgA omrgL
 split
 · exact join_str hs ht
 · exact ⟨fun d hd => (by cases hd), fun d hd => (by cases hd)⟩
end Go.Proofs.Ytljfigikkajlnaa
