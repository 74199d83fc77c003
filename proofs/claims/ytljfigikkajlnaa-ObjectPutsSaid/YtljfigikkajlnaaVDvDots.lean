/- DERIVED. The dots of both states, in order: the document's dots. -/
import Derived.Test.YtljfigikkajlnaaVDvRefMax
import Derived.Test.YtljfigikkajlnaaVDvSays
namespace Go.Proofs.Ytljfigikkajlnaa
open Go.RowKit
set_option linter.unusedVariables false
set_option linter.unusedSimpArgs false
/-- Dots that rise, those of l and of the first k of m. -/
def DOk (l m : List Sib) (k : Nat) (P : List Dot) : Prop := DRis P ∧ ∀ d, d ∈ P ↔ (∃ x ∈ l, x.d = d) ∨ ∃ y ∈ m.take k, y.d = d
theorem dok_zero {l m : List Sib} (hl : SRis l) : DOk l m 0 (l.map (·.d)) := by
  refine ⟨List.pairwise_map.2 hl, fun d => ?_⟩
  simp
theorem dok_there {l m : List Sib} {k : Nat} {P : List Dot} (h : DOk l m k P) (hk : k < m.length) (ht : ∃ x ∈ l, x.d = m[k].d) : DOk l m (k + 1) P := by
  refine ⟨h.1, fun d => ?_⟩
  rw [h.2 d, List.take_succ_eq_append_getElem hk]
  constructor
  · rintro (h1 | ⟨y, hy, e⟩)
    · exact .inl h1
    · exact .inr ⟨y, List.mem_append_left _ hy, e⟩
  · rintro (h1 | ⟨y, hy, e⟩)
    · exact .inl h1
    · rcases List.mem_append.1 hy with hy | hy
      · exact .inr ⟨y, hy, e⟩
      · simp only [List.mem_singleton] at hy; subst hy
        obtain ⟨x, hx, e2⟩ := ht
        exact .inl ⟨x, hx, e2.trans e⟩
theorem dok_new {l m : List Sib} (hm : SRis m) {k : Nat} {P1 P2 : List Dot} (h : DOk l m k (P1 ++ P2)) (hk : k < m.length) (hn : ∀ x ∈ l, x.d ≠ m[k].d) (h2 : ∀ d ∈ P2, ltD m[k].d d = true) (h1 : P1 = [] ∨ ∃ Q p, P1 = Q ++ [p] ∧ ltD m[k].d p = false) :
    DOk l m (k + 1) (P1 ++ m[k].d :: P2) := by
  have hne : ∀ d ∈ P1 ++ P2, d ≠ m[k].d := by
    intro d hd e
    rcases (h.2 d).1 hd with ⟨x, hx, e2⟩ | ⟨y, hy, e2⟩
    · exact hn x hx (e2.trans e)
    · obtain ⟨j, hj, rfl⟩ := List.getElem_of_mem hy
      simp only [List.length_take] at hj
      rw [List.getElem_take] at e2
      have := List.pairwise_iff_getElem.1 hm j k (by omega) hk (by omega)
      rw [e2, e, ltD_irrefl] at this; cases this
  have hr := List.pairwise_append.1 h.1
  have hlt : ∀ d ∈ P1, ltD d m[k].d = true := by
    intro d hd
    have hd0 := hne d (List.mem_append_left _ hd)
    rcases h1 with rfl | ⟨Q, p, rfl, hp⟩
    · cases hd
    · have hp2 : ltD p m[k].d = true := by
        rcases ltD_tri p m[k].d with ⟨h3, _⟩ | h3 | ⟨h3, _⟩
        · exact h3
        · exact absurd h3 (hne p (by simp))
        · rw [h3] at hp; cases hp
      rcases List.mem_append.1 hd with hq | hq
      · exact ltD_trans ((List.pairwise_append.1 hr.1).2.2 d hq p (by simp)) hp2
      · simp only [List.mem_singleton] at hq; subst hq; exact hp2
  refine ⟨List.pairwise_append.2 ⟨hr.1, List.Pairwise.cons h2 hr.2.1, fun x hx y hy => ?_⟩, fun d => ?_⟩
  · rcases List.mem_cons.1 hy with rfl | hy
    · exact hlt x hx
    · exact hr.2.2 x hx y hy
  · have h0 := h.2 d
    rw [List.take_succ_eq_append_getElem hk]
    simp only [List.mem_append, List.mem_cons, List.not_mem_nil, or_false] at h0 ⊢
    constructor
    · rintro (h3 | rfl | h3)
      · rcases h0.1 (.inl h3) with h4 | ⟨y, hy, e⟩
        · exact .inl h4
        · exact .inr ⟨y, .inl hy, e⟩
      · exact .inr ⟨_, .inr rfl, rfl⟩
      · rcases h0.1 (.inr h3) with h4 | ⟨y, hy, e⟩
        · exact .inl h4
        · exact .inr ⟨y, .inl hy, e⟩
    · rintro (h3 | ⟨y, hy | rfl, e⟩)
      · rcases h0.2 (.inl h3) with h4 | h4
        · exact .inl h4
        · exact .inr (.inr h4)
      · rcases h0.2 (.inr ⟨y, hy, e⟩) with h4 | h4
        · exact .inl h4
        · exact .inr (.inr h4)
      · exact .inr (.inl e.symm)
theorem dok_end {l m : List Sib} (hl : SRis l) (hm : SRis m) {P : List Dot} (h : DOk l m m.length P) : P = mdots l m := by
  refine dris_ext h.1 (mdots_ris l m hl hm) fun d => ?_
  rw [h.2 d, mdots_mem l m d, List.take_length]
theorem says_one {a : List Dot} {l : List Sib} {d : Dot} : ((says a l d).1 = 1 ∧ ∃ x ∈ l, x.d = d) ∨ ((says a l d).1 ≠ 1 ∧ ∀ x ∈ l, x.d ≠ d) := by
  cases h : l.find? fun x => decide (x.d = d) with
  | some x =>
    refine .inl ⟨by unfold says; rw [h], x, List.mem_of_find?_eq_some h, ?_⟩
    simpa using List.find?_some h
  | none =>
    have h2 := List.find?_eq_none.1 h
    have h3 : ∀ x ∈ l, x.d ≠ d := fun x hx => by simpa using h2 x hx
    refine .inr ⟨?_, h3⟩
    rw [says_not h3]
    by_cases hc : cov a d = true <;> simp [hc]
theorem own_some {α : Type} {K : GR.Kind α} {w : World} {B : Nat} {v : Value} {l : List α} (h : GR.Own K w B v l) (hl : l ≠ []) : ∃ g cap : Nat, v = .slice (some ⟨g, 0, none⟩) l.length cap ∧ B ≤ g ∧ g < w.heap.size := by
  rcases h.2 with ⟨_, h0⟩ | ⟨g, cap, cur, rfl, hb, _⟩
  · exact absurd (List.eq_nil_of_length_eq_zero h0) hl
  · exact ⟨g, cap, rfl, hb, (h.lt g rfl).2⟩
theorem set_bub2 (Q : List Dot) (p y : Dot) (R : List Dot) : ((Q ++ p :: y :: R).set (Q.length + 1) p).set Q.length y = Q ++ y :: p :: R := by simp
set_option maxRecDepth 100000 in
set_option maxHeartbeats 12800000 in
theorem ddots_any (A B C D : Option Addr) (c1 c2 c3 c4 : Nat) (a b : List Dot) (l m : List Sib) (w : World) (ha : GR.Rd dotK w A a) (hl : GR.Rd sibK w B l) (hm : GR.Rd sibK w D m)
    (na : ∀ d ∈ a, 0 ≤ d.n) (sl : SRis l) (sm : SRis m) (ll : l.length ≤ 64) (lm : m.length ≤ 64) :
    Calls Try.prog 70 #[.agg #[.slice A a.length c1, .slice B l.length c2], .agg #[.slice C b.length c3, .slice D m.length c4]] w
      fun e w' => ∃ v, e = .returned v ∧ GR.Own dotK w' w.heap.size v (mdots l m) ∧ Below w.heap.size w w' := by
  obtain ⟨i0, hi0, hz0, hz1, hz2⟩ := info_parts dot_info
  have HA := Lib.hid ha
  have HL := Lib.hid hl
  have HM := Lib.hid hm
  have NA := Lib.hid na
  have SL := Lib.hid sl
  have SM := Lib.hid sm
  clear ha hl hm na sl sm
  go_enter Try.func70, Try.ntmps70
  go_wp2_with fail
  obtain ⟨W1, hW1⟩ : ∃ W1 : World, W1 = (w.alloc (.cells #[.slice A a.length c1, .slice B l.length c2] 25)).alloc (.cells #[.slice C b.length c3, .slice D m.length c4] 25) := ⟨_, rfl⟩
  rw [← hW1]
  have LW : Hid (Below w.heap.size w W1) := Lib.hid (by rw [hW1]; exact (by repeat (first | exact Below.refl _ _ | refine bl_drewN ?_ _ | refine bl_drew ?_ | refine bl_alloc ?_ _)))
  have XA : Hid (GR.Blk W1 w.heap.size 25 #[.slice A a.length c1, .slice B l.length c2]) := Lib.hid (by rw [hW1]; exact (GR.Blk.new _ _ _).alloc _)
  have XB : Hid (GR.Blk W1 (w.heap.size + 1) 25 #[.slice C b.length c3, .slice D m.length c4]) := Lib.hid (by rw [hW1]; exact new_at _ _ _ (by simp))
  clear hW1
  go_loopw [5, 6] (fun v0 i w' => ∃ (v : Value) (k : Nat), v = v0 ∧ k ≤ l.length ∧ i = .int .i64 k ∧ Hid (GR.Own dotK w' W1.heap.size v ((l.take k).map (·.d))) ∧ Hid (Below W1.heap.size W1 w')) (fun _ i _ => l.length - (intOf i).toNat)
  case atStart => exact ⟨_, 0, rfl, Nat.zero_le _, rfl, Lib.hid (GR.Own.nil _ _ _), Lib.hid (Below.refl _ _)⟩
  case round =>
    obtain ⟨v, k, rfl, hk, rfl, ho, hbl⟩ := hrel
    have s1 : wr.cell? ⟨w.heap.size, 1, none⟩ = some (.slice B l.length c2) := (XA.out.below hbl.out XA.out.lt).cell 1
    have hBs : W1.heap.size ≤ wr.heap.size := hbl.out.size
    by_cases hlt : k < l.length
    · have i1 : (0 : Int) ≤ (k : Int) := by omega
      have i2 : (k : Int) < (l.length : Int) := by omega
      obtain ⟨xd, e_, _, x0, x1, x2, x3⟩ := sib_at (HL.out.below (bl_then LW.out hbl.out)) k hlt
      subst e_
      go_wp2_with (at_builtin; refine GR.app_one (K := dotK) rfl (.tmp 19) (.tmp 26) _ rfl Try.underlying22 hi0 hz0 hz1 hz2 rfl W1.heap.size _ _ l[k].d rfl ho.out rfl (by show (((l.take k).map (·.d)).length + 1) * 16 ≤ _; simp only [List.length_map, List.length_take]; omega) hBs ?_; intro v3 w3 ho3 hg3 hat3; have HO3 := Lib.hid ho3; have HB3 := Lib.hid (Below.grown hbl.out hg3 hBs (fun b hb => (ho.out.lt b hb).1)); clear ho3 hg3 hat3)
      go_roundw
      case rel => exact ⟨_, k + 1, rfl, by omega, by go_num, Lib.hid (by rw [List.take_succ_eq_append_getElem hlt, List.map_append]; exact HO3.out), HB3⟩
      case measure => simp [intOf]; omega
    · obtain rfl : k = l.length := by omega
      have ho2 : GR.Own dotK wr W1.heap.size v (l.map (·.d)) := by have := ho.out; rwa [List.take_length] at this
      have HO2 := Lib.hid ho2
      have HD0 := Lib.hid (dok_zero (m := m) SL.out)
      have HPL := Lib.hid (show (l.map (·.d)).length ≤ 64 + 0 by simpa using ll)
      have LB := hbl
      clear ho ho2 hBs hlt hk
      obtain ⟨wl, hwl⟩ : ∃ wl : World, wl = wr := ⟨_, rfl⟩
      subst hwl
      go_wp2
      clear s1 hbl
      go_loopw [5, 7] (fun v0 i w' => ∃ (v : Value) (k : Nat) (P : List Dot), v = v0 ∧ k ≤ m.length ∧ i = .int .i64 k ∧ Hid (DOk l m k P) ∧ Hid (P.length ≤ 64 + k) ∧ Hid (GR.Own dotK w' W1.heap.size v P) ∧ Hid (Below W1.heap.size W1 w')) (fun _ i _ => m.length - (intOf i).toNat)
      case atStart => exact ⟨_, 0, _, rfl, Nat.zero_le _, rfl, HD0, HPL, HO2, LB⟩
      case round =>
        clear HD0 HPL HO2 LB
        obtain ⟨v, k, P, rfl, hk, rfl, hD, hPL, ho, hbl⟩ := hrel
        have t1 : wr.cell? ⟨w.heap.size + 1, 1, none⟩ = some (.slice D m.length c4) := (XB.out.below hbl.out XB.out.lt).cell 1
        have s0 : wr.cell? ⟨w.heap.size, 0, none⟩ = some (.slice A a.length c1) := (XA.out.below hbl.out XA.out.lt).cell 0
        have s1 : wr.cell? ⟨w.heap.size, 1, none⟩ = some (.slice B l.length c2) := (XA.out.below hbl.out XA.out.lt).cell 1
        have hw1 : w.heap.size + 1 < wr.heap.size := (XB.out.below hbl.out XB.out.lt).lt
        have hw0 : w.heap.size < wr.heap.size := by omega
        have hBs : W1.heap.size ≤ wr.heap.size := hbl.out.size
        by_cases hlt : k < m.length
        · have i1 : (0 : Int) ≤ (k : Int) := by omega
          have i2 : (k : Int) < (m.length : Int) := by omega
          obtain ⟨xd, e_, _, x0, x1, x2, x3⟩ := sib_at (HM.out.below (bl_then LW.out hbl.out)) k hlt
          subst e_
          have HA1 := Lib.hid (HA.out.below (bl_then LW.out hbl.out))
          have HL1 := Lib.hid (HL.out.below (bl_then LW.out hbl.out))
          go_wp2_with fail
          refine (says_any A B c1 c2 a l m[k].d _ (HA1.out.alloc _) (HL1.out.alloc _) NA.out).mono ?_
          rintro e w5 ⟨rfl, hb5⟩
          have XV := Lib.hid ((GR.Blk.new wr 41 #[.int .u32 m[k].d.a, .int .u64 m[k].d.n]).below hb5 (by simp))
          have hb6 := bl_then (w := wr) (by repeat (first | exact Below.refl _ _ | refine bl_drewN ?_ _ | refine bl_drew ?_ | refine bl_alloc ?_ _)) hb5
          have L5 := Lib.hid (bl_then hbl.out hb6)
          have O5 := Lib.hid (ho.out.below hb6)
          have hB5 : W1.heap.size ≤ w5.heap.size := L5.out.size
          have v0_ : w5.cell? ⟨wr.heap.size, 0, none⟩ = some (.int .u32 m[k].d.a) := XV.out.cell 0
          have v1_ : w5.cell? ⟨wr.heap.size, 1, none⟩ = some (.int .u64 m[k].d.n) := XV.out.cell 1
          have hV5 : wr.heap.size < w5.heap.size := XV.out.lt
          clear hb5 hb6 x0 x1 x2 x3 s0 s1 t1 ho hbl hBs hw0 hw1
          obtain ⟨kd, z, hkz⟩ : ∃ (kd : Int) (z : Sib), says a l m[k].d = (kd, z) := ⟨_, _, rfl⟩
          have HS1 := Lib.hid (says_one (a := a) (l := l) (d := m[k].d))
          rw [hkz] at HS1 ⊢
          clear hkz
          simp only [sibV]
          by_cases h1 : kd = 1
          · subst h1
            have HN := Lib.hid (show DOk l m (k + 1) P from by
              rcases HS1.out with ⟨_, h⟩ | ⟨h, _⟩
              · exact dok_there hD.out hlt h
              · exact absurd rfl h)
            clear HS1
            go_wp2
            go_roundw
            case rel => exact ⟨_, k + 1, P, rfl, by omega, by go_num, HN, Lib.hid (by have := hPL.out; omega), Lib.hid (O5.out.alloc _), Lib.hid (bl_alloc L5.out _)⟩
            case measure => simp [intOf]; omega
          · have HNO := Lib.hid (show ∀ x ∈ l, x.d ≠ m[k].d from by
              rcases HS1.out with ⟨h, _⟩ | ⟨_, h⟩
              · exact absurd h h1
              · exact h)
            have q0 : (kd == 1) = false := by simpa using h1
            clear HS1 h1
            go_wp2_with (at_builtin; refine GR.app_all (K := dotK) rfl (.tmp 49) (.tmp 51) _ rfl Try.underlying22 hi0 hz0 hz1 hz2 rfl W1.heap.size _ P rfl ((O5.out.alloc _).alloc _) _ 1 1 [m[k].d] rfl rfl (GR.rd_new _ (by simp) (by show 16 ≤ 140737488355328; omega)) (by show (P.length + 1) * 16 ≤ _; have := hPL.out; omega) (by simp; omega) ?_; intro v3 w3 ho3 hg3 hat3; have HO3 := Lib.hid ho3; have HB3 := Lib.hid (Below.grown (bl_alloc (bl_alloc L5.out _) _) hg3 (by simp; omega) (fun b hb => (O5.out.lt b hb).1)); clear ho3 hg3 hat3; obtain ⟨g, cap, rfl, hgB, hgw⟩ := own_some HO3.out (by simp))
            obtain ⟨y, hy⟩ : ∃ y : Dot, y = m[k].d := ⟨_, rfl⟩
            have HY := Lib.hid hy
            have HO3' : Hid (GR.Own dotK w3 W1.heap.size (.slice (some ⟨g, 0, none⟩) (P.length + 1) cap) (P ++ [y])) := Lib.hid (by
              have h := HO3.out
              rw [← hy, show (P ++ [y]).length = P.length + 1 by simp] at h
              exact h)
            clear HO3 hy
            have HO3 := HO3'
            clear HO3'
            have hpl : P.length ≤ 200 := by have := hPL.out; omega
            go_loopw [11] (fun j w' => ∃ P1 P2 : List Dot, j = .int .i64 P1.length ∧ Hid (P1 ++ P2 = P) ∧ Hid (GR.Own dotK w' W1.heap.size (.slice (some ⟨g, 0, none⟩) (P.length + 1) cap) (P1 ++ y :: P2)) ∧ Hid (∀ d ∈ P2, ltD y d = true) ∧ Hid (Below W1.heap.size W1 w')) (fun j _ => (intOf j).toNat)
            case atStart => exact ⟨P, [], by (congr 1; unfold wrap64; omega), Lib.hid (by simp), HO3, Lib.hid (by simp), HB3⟩
            case round =>
              clear HO3 HB3
              obtain ⟨P1, P2, rfl, hPP, ho, hgt, hbl⟩ := hrel
              have HD1 := Lib.hid (show DOk l m k (P1 ++ P2) by rw [hPP.out]; exact hD.out)
              rcases List.eq_nil_or_concat P1 with rfl | ⟨Q, p, rfl⟩
              · have HIN := Lib.hid (show DOk l m (k + 1) (y :: P2) by
                  have h := dok_new SM.out (P1 := []) HD1.out hlt HNO.out (fun d hd => by have := hgt.out d hd; rwa [HY.out] at this) (.inl rfl)
                  rw [← HY.out] at h; exact h)
                go_wp2
                go_quiet (fail)
                go_wp2
                go_roundw
                case rel => exact ⟨_, k + 1, y :: P2, rfl, by omega, by go_num, HIN, Lib.hid (by have h1 := hPL.out; rw [← hPP.out] at h1; simp at h1 ⊢; omega), Lib.hid (by
                  have h := ho.out.drewN nq
                  exact h), Lib.hid (bl_drewN hbl.out _)⟩
                case measure => simp [intOf]; omega
              · have hcc : Q.concat p = Q ++ [p] := by simp
                rw [hcc] at hPP ho HD1 ⊢
                have hql : (Q ++ [p]).length = Q.length + 1 := by simp
                rw [hql]
                have ho3 : GR.Own dotK wr W1.heap.size (.slice (some ⟨g, 0, none⟩) (P.length + 1) cap) (Q ++ p :: y :: P2) := by have := ho.out; rwa [List.append_assoc] at this
                obtain ⟨d0, d1, e0, e1⟩ := own_dot ho3 (bub_at Q p y _).1
                obtain ⟨d2, d3, e2, e3⟩ := own_dot ho3 (bub_at Q p y _).2
                have HO3 := Lib.hid ho3
                have hlen : Q.length + 1 ≤ P.length := by have := congrArg List.length hPP.out; simp at this; omega
                have j1 : (0 : Int) ≤ (Q.length : Int) := by omega
                have j7 : (0 : Int) ≤ ((Q.length + 1 : Nat) : Int) := by omega
                have j8 : ((Q.length + 1 : Nat) : Int) < ((P.length + 1 : Nat) : Int) := by omega
                have j9 : decide ((0 : Int) < (Q.length : Int) + 1) = true := by simp <;> omega
                have j10 : decide (0 < Q.length + 1) = true := by simp
                have j4 : (0 : Int) ≤ (Q.length : Int) + 1 := by omega
                have j5 : (Q.length : Int) < (P.length : Int) + 1 := by omega
                have j6 : (Q.length : Int) + 1 < (P.length : Int) + 1 := by omega
                have k0 := over_cell d0
                have k1 := over_cell d1
                have k2 := over_cell d2
                have k3 := over_cell d3
                clear hcc ho ho3 d0 d1 d2 d3 e0 e1 e2 e3
                cases hlp : ltD y p with
                | true =>
                  have HC := Lib.hid hlp
                  have HGT := Lib.hid (show ∀ d ∈ p :: P2, ltD y d = true by
                    intro d hd
                    rcases List.mem_cons.1 hd with rfl | hd
                    · exact hlp
                    · exact hgt.out d hd)
                  clear hlp
                  go_wp2
                  refine over_region (W := wr) (by kernel_rfl) (by kernel_rfl) (by repeat (first | exact Below.refl _ _ | refine bl_drewN ?_ _ | refine bl_drew ?_ | refine bl_alloc ?_ _)) ?_
                  repeat (go_big_quiet_step ((go_at_call 81; exact over_of (ahead_is y p _ HC.out _))))
                  refine wpQuiet_nil ?_
                  intro _ hx_
                  obtain ⟨x_, hx_⟩ := hx_
                  subst hx_
                  obtain ⟨w6, hb6⟩ := x_
                  dsimp only
                  have HO4 := Lib.hid (HO3.out.below hb6)
                  have HB4 := Lib.hid (bl_then hbl.out hb6)
                  clear k0 k1 k2 k3 hb6
                  obtain ⟨d0, d1, e0, e1⟩ := own_dot HO4.out (bub_at Q p y _).1
                  obtain ⟨d2, d3, e2, e3⟩ := own_dot HO4.out (bub_at Q p y _).2
                  have hgt6 : g < w6.heap.size := (HO4.out.lt g rfl).2
                  go_wp2
                  have wq : IntKind.i64.wrap (Q.length : Int) = (Q.length : Int) := IntWalk.i64_in _ (by omega)
                  have tq : ((Q.length : Int) + 1).toNat = Q.length + 1 := by omega
                  refine wp_region_held_drew (S := fun w' => True) (by kernel_rfl) ?_ (fun hHeld => ?_)
                  · trivial
                  refine wpAnyH_take (i := 0) (oi := { dst := some 72, op := Op.move (Operand.tmp 5), type := 22, pos := "ref.go:99", after := #[], guard := none }) (v := ?_) rfl (by kernel_rfl) (by kernel_rfl) (by kernel_rfl) (fun _ _ _ h => h) (Or.inl ⟨by rfl, ?_⟩) (by assumption) ?_
                  rotate_left
                  · intro w_ hSw; (try dsimp only at hSw); go_simp; first | done | with_reducible rfl
                  try simp only [Act.put, List.setIfInBounds_toArray, List.set_cons_zero, List.set_cons_succ]
                  refine wpAnyH_take (i := 1) (oi := { dst := some 73, op := Op.move (Operand.tmp 11), type := 3, pos := "ref.go:99", after := #[], guard := none }) (v := ?_) rfl (by kernel_rfl) (by kernel_rfl) (by kernel_rfl) (fun _ _ _ h => h) (Or.inl ⟨by rfl, ?_⟩) (by assumption) ?_
                  rotate_left
                  · intro w_ hSw; (try dsimp only at hSw); go_simp; first | done | with_reducible rfl
                  try simp only [Act.put, List.setIfInBounds_toArray, List.set_cons_zero, List.set_cons_succ]
                  refine wpAnyH_take (i := 2) (oi := { dst := some 74, op := Op.move (Operand.tmp 5), type := 22, pos := "ref.go:99", after := #[{ on := 15, ground := Ground.gcOnly Departure.lateStores }], guard := none }) (v := ?_) rfl (by kernel_rfl) (by kernel_rfl) (by kernel_rfl) (fun _ _ _ h => h) (Or.inl ⟨by rfl, ?_⟩) (by assumption) ?_
                  rotate_left
                  · intro w_ hSw; (try dsimp only at hSw); go_simp; first | done | with_reducible rfl
                  try simp only [Act.put, List.setIfInBounds_toArray, List.set_cons_zero, List.set_cons_succ]
                  refine wpAnyH_take (i := 3) (oi := { dst := some 75, op := Op.move (Operand.tmp 11), type := 3, pos := "ref.go:99", after := #[{ on := 15, ground := Ground.gcOnly Departure.lateStores }], guard := none }) (v := ?_) rfl (by kernel_rfl) (by kernel_rfl) (by kernel_rfl) (fun _ _ _ h => h) (Or.inl ⟨by rfl, ?_⟩) (by assumption) ?_
                  rotate_left
                  · intro w_ hSw; (try dsimp only at hSw); go_simp; first | done | with_reducible rfl
                  try simp only [Act.put, List.setIfInBounds_toArray, List.set_cons_zero, List.set_cons_succ]
                  refine wpAnyH_take (i := 4) (oi := { dst := some 76, op := Op.binOp BinOp.sub 3 (Operand.tmp 75) (Operand.const (Value.int IntKind.i64 1)) 3, type := 3, pos := "ref.go:99", after := #[{ on := 3, ground := Ground.data }, { on := 15, ground := Ground.gcOnly Departure.lateStores }], guard := none }) (v := ?_) rfl (by kernel_rfl) (by kernel_rfl) (by kernel_rfl) (fun _ _ _ h => h) (Or.inl ⟨by rfl, ?_⟩) (by assumption) ?_
                  rotate_left
                  · intro w_ hSw; (try dsimp only at hSw); go_simp; first | done | with_reducible rfl
                  try simp only [Act.put, List.setIfInBounds_toArray, List.set_cons_zero, List.set_cons_succ]
                  refine wpAnyH_take (i := 5) (oi := { dst := some 77, op := Op.move (Operand.tmp 5), type := 22, pos := "ref.go:99", after := #[], guard := none }) (v := ?_) rfl (by kernel_rfl) (by kernel_rfl) (by kernel_rfl) (fun _ _ _ h => h) (Or.inl ⟨by rfl, ?_⟩) (by assumption) ?_
                  rotate_left
                  · intro w_ hSw; (try dsimp only at hSw); go_simp; first | done | with_reducible rfl
                  try simp only [Act.put, List.setIfInBounds_toArray, List.set_cons_zero, List.set_cons_succ]
                  refine wpAnyH_take (i := 6) (oi := { dst := some 78, op := Op.move (Operand.tmp 11), type := 3, pos := "ref.go:99", after := #[], guard := none }) (v := ?_) rfl (by kernel_rfl) (by kernel_rfl) (by kernel_rfl) (fun _ _ _ h => h) (Or.inl ⟨by rfl, ?_⟩) (by assumption) ?_
                  rotate_left
                  · intro w_ hSw; (try dsimp only at hSw); go_simp; first | done | with_reducible rfl
                  try simp only [Act.put, List.setIfInBounds_toArray, List.set_cons_zero, List.set_cons_succ]
                  refine wpAnyH_take (i := 7) (oi := { dst := some 79, op := Op.binOp BinOp.sub 3 (Operand.tmp 78) (Operand.const (Value.int IntKind.i64 1)) 3, type := 3, pos := "ref.go:99", after := #[{ on := 6, ground := Ground.data }], guard := none }) (v := ?_) rfl (by kernel_rfl) (by kernel_rfl) (by kernel_rfl) (fun _ _ _ h => h) (Or.inl ⟨by rfl, ?_⟩) (by assumption) ?_
                  rotate_left
                  · intro w_ hSw; (try dsimp only at hSw); go_simp; first | done | with_reducible rfl
                  try simp only [Act.put, List.setIfInBounds_toArray, List.set_cons_zero, List.set_cons_succ]
                  refine wpAnyH_take (i := 8) (oi := { dst := some 80, op := Op.indexAddr 22 (Operand.tmp 77) (Operand.tmp 79), type := 0, pos := "ref.go:99", after := #[{ on := 5, ground := Ground.data }, { on := 7, ground := Ground.data }], guard := none }) (v := ?_) rfl (by kernel_rfl) (by kernel_rfl) (by kernel_rfl) (fun _ _ _ h => h) (Or.inl ⟨by rfl, ?_⟩) (by assumption) ?_
                  rotate_left
                  · intro w_ hSw; (try dsimp only at hSw); go_simp; first | done | with_reducible rfl
                  try simp only [Act.put, List.setIfInBounds_toArray, List.set_cons_zero, List.set_cons_succ]
                  refine wpAnyH_take (i := 10) (oi := { dst := some 82, op := Op.move (Operand.tmp 5), type := 22, pos := "ref.go:99", after := #[], guard := none }) (v := ?_) rfl (by kernel_rfl) (by kernel_rfl) (by kernel_rfl) (fun _ _ _ h => h) (Or.inl ⟨by rfl, ?_⟩) (by assumption) ?_
                  rotate_left
                  · intro w_ hSw; (try dsimp only at hSw); go_simp; first | done | with_reducible rfl
                  try simp only [Act.put, List.setIfInBounds_toArray, List.set_cons_zero, List.set_cons_succ]
                  refine wpAnyH_take (i := 11) (oi := { dst := some 83, op := Op.move (Operand.tmp 11), type := 3, pos := "ref.go:99", after := #[], guard := none }) (v := ?_) rfl (by kernel_rfl) (by kernel_rfl) (by kernel_rfl) (fun _ _ _ h => h) (Or.inl ⟨by rfl, ?_⟩) (by assumption) ?_
                  rotate_left
                  · intro w_ hSw; (try dsimp only at hSw); go_simp; first | done | with_reducible rfl
                  try simp only [Act.put, List.setIfInBounds_toArray, List.set_cons_zero, List.set_cons_succ]
                  refine wpAnyH_take (i := 12) (oi := { dst := some 84, op := Op.indexAddr 22 (Operand.tmp 82) (Operand.tmp 83), type := 0, pos := "ref.go:99", after := #[{ on := 10, ground := Ground.data }, { on := 11, ground := Ground.data }], guard := none }) (v := ?_) rfl (by kernel_rfl) (by kernel_rfl) (by kernel_rfl) (fun _ _ _ h => h) (Or.inl ⟨by rfl, ?_⟩) (by assumption) ?_
                  rotate_left
                  · intro w_ hSw; (try dsimp only at hSw); go_simp; first | done | with_reducible rfl
                  try simp only [Act.put, List.setIfInBounds_toArray, List.set_cons_zero, List.set_cons_succ]
                  refine wpAnyH_ready (rs := [9, 13]) (by kernel_rfl) (by simp) ?_
                  refine AllReadyH.cons (o := { dst := some 81, op := Op.load 41 (Operand.tmp 80), type := 41, pos := "ref.go:99", after := #[{ on := 8, ground := Ground.data }], guard := none }) rfl (fun K hK => ?_) (AllReadyH.cons (o := { dst := some 85, op := Op.load 41 (Operand.tmp 84), type := 41, pos := "ref.go:99", after := #[{ on := 12, ground := Ground.data }], guard := none }) rfl (fun K hK => ?_) (AllReadyH.nil))
                  · skip
                    go_simp
                    skip
                    refine hK.out _ _ ?_ (fun hHeld => ?_)
                    · trivial
                    clear hK K
                    try simp only [Act.put, List.setIfInBounds_toArray, List.set_cons_zero, List.set_cons_succ]
                    refine wpAnyH_ready (rs := [13]) (by kernel_rfl) (by simp) ?_
                    refine AllReadyH.cons (o := { dst := some 85, op := Op.load 41 (Operand.tmp 84), type := 41, pos := "ref.go:99", after := #[{ on := 12, ground := Ground.data }], guard := none }) rfl (fun K hK => ?_) (AllReadyH.nil)
                    go_simp
                    skip
                    refine hK.out _ _ ?_ (fun hHeld => ?_)
                    · trivial
                    clear hK K
                    try simp only [Act.put, List.setIfInBounds_toArray, List.set_cons_zero, List.set_cons_succ]
                    refine wpAnyH_take (i := 14) (oi := { dst := some 86, op := Op.indexAddr 22 (Operand.tmp 72) (Operand.tmp 73), type := 0, pos := "ref.go:99", after := #[{ on := 0, ground := Ground.data }, { on := 1, ground := Ground.data }, { on := 0, ground := Ground.phase }, { on := 1, ground := Ground.phase }, { on := 2, ground := Ground.textOnly Departure.lateStores }, { on := 3, ground := Ground.textOnly Departure.lateStores }, { on := 4, ground := Ground.textOnly Departure.lateStores }, { on := 5, ground := Ground.phase }, { on := 6, ground := Ground.phase }, { on := 7, ground := Ground.phase }, { on := 8, ground := Ground.phase }, { on := 9, ground := Ground.phase }, { on := 10, ground := Ground.textOnly Departure.lateStores }, { on := 11, ground := Ground.textOnly Departure.lateStores }, { on := 12, ground := Ground.textOnly Departure.lateStoresUnsure }, { on := 13, ground := Ground.phase }], guard := none }) (v := ?_) rfl (by kernel_rfl) (by kernel_rfl) (by kernel_rfl) (fun _ _ _ h => h) (Or.inl ⟨by rfl, ?_⟩) (by assumption) ?_
                    rotate_left
                    · intro w_ hSw; (try dsimp only at hSw); go_simp; first | done | with_reducible rfl
                    try simp only [Act.put, List.setIfInBounds_toArray, List.set_cons_zero, List.set_cons_succ]
                    refine wpAnyH_ready (rs := [15]) (by kernel_rfl) (by simp) ?_
                    refine AllReadyH.cons (o := { dst := none, op := Op.store 41 (Operand.tmp 86) (Operand.tmp 81), type := 0, pos := "ref.go:99", after := #[{ on := 14, ground := Ground.data }, { on := 9, ground := Ground.data }, { on := 0, ground := Ground.phase }, { on := 1, ground := Ground.phase }, { on := 2, ground := Ground.textOnly Departure.lateStores }, { on := 3, ground := Ground.textOnly Departure.lateStores }, { on := 4, ground := Ground.textOnly Departure.lateStores }, { on := 5, ground := Ground.phase }, { on := 6, ground := Ground.phase }, { on := 7, ground := Ground.phase }, { on := 8, ground := Ground.phase }, { on := 9, ground := Ground.phase }, { on := 10, ground := Ground.textOnly Departure.lateStores }, { on := 11, ground := Ground.textOnly Departure.lateStores }, { on := 12, ground := Ground.textOnly Departure.lateStoresUnsure }, { on := 13, ground := Ground.phase }], guard := none }) rfl (fun K hK => ?_) (AllReadyH.nil)
                    go_simp
                    skip
                    refine hK.out _ _ ?_ (fun hHeld => ?_)
                    · trivial
                    clear hK K
                    try simp only [Act.put, List.setIfInBounds_toArray, List.set_cons_zero, List.set_cons_succ]
                    refine wpAnyH_take (i := 16) (oi := { dst := some 87, op := Op.indexAddr 22 (Operand.tmp 74) (Operand.tmp 76), type := 0, pos := "ref.go:99", after := #[{ on := 2, ground := Ground.data }, { on := 4, ground := Ground.data }, { on := 0, ground := Ground.phase }, { on := 1, ground := Ground.phase }, { on := 2, ground := Ground.phase }, { on := 3, ground := Ground.phase }, { on := 4, ground := Ground.phase }, { on := 5, ground := Ground.phase }, { on := 6, ground := Ground.phase }, { on := 7, ground := Ground.phase }, { on := 8, ground := Ground.phase }, { on := 9, ground := Ground.phase }, { on := 10, ground := Ground.phase }, { on := 11, ground := Ground.phase }, { on := 12, ground := Ground.phase }, { on := 13, ground := Ground.phase }, { on := 14, ground := Ground.phase }, { on := 15, ground := Ground.phase }], guard := none }) (v := ?_) rfl (by kernel_rfl) (by kernel_rfl) (by kernel_rfl) (fun _ _ _ h => h) (Or.inl ⟨by rfl, ?_⟩) (by assumption) ?_
                    rotate_left
                    · intro w_ hSw; (try dsimp only at hSw); go_simp; first | done | with_reducible rfl
                    try simp only [Act.put, List.setIfInBounds_toArray, List.set_cons_zero, List.set_cons_succ]
                    refine wpAnyH_ready (rs := [17]) (by kernel_rfl) (by simp) ?_
                    refine AllReadyH.cons (o := { dst := none, op := Op.store 41 (Operand.tmp 87) (Operand.tmp 85), type := 0, pos := "ref.go:99", after := #[{ on := 16, ground := Ground.data }, { on := 13, ground := Ground.data }, { on := 15, ground := Ground.chain }, { on := 0, ground := Ground.phase }, { on := 1, ground := Ground.phase }, { on := 2, ground := Ground.phase }, { on := 3, ground := Ground.phase }, { on := 4, ground := Ground.phase }, { on := 5, ground := Ground.phase }, { on := 6, ground := Ground.phase }, { on := 7, ground := Ground.phase }, { on := 8, ground := Ground.phase }, { on := 9, ground := Ground.phase }, { on := 10, ground := Ground.phase }, { on := 11, ground := Ground.phase }, { on := 12, ground := Ground.phase }, { on := 13, ground := Ground.phase }, { on := 14, ground := Ground.phase }, { on := 15, ground := Ground.phase }], guard := none }) rfl (fun K hK => ?_) (AllReadyH.nil)
                    go_simp
                    skip
                    refine hK.out _ _ ?_ (fun hHeld => ?_)
                    · trivial
                    clear hK K
                    try simp only [Act.put, List.setIfInBounds_toArray, List.set_cons_zero, List.set_cons_succ]
                    refine wpAnyH_done (by kernel_rfl) ?_ _
                    go_wp2
                    go_roundw
                    case rel => exact ⟨Q, p :: P2, rfl, Lib.hid (by rw [← hPP.out]; simp), Lib.hid (by have h := (own_setd (own_setd HO4.out (Q.length + 1) (by simp) p) Q.length (by simp) y).drew; rw [set_bub2] at h; exact h), HGT, Lib.hid (bl_drew (by repeat (first | exact HB4.out | refine Below.setCell ?_ hgB _)))⟩
                    case measure => simp [intOf]; try omega
                  · skip
                    go_simp
                    skip
                    refine hK.out _ _ ?_ (fun hHeld => ?_)
                    · trivial
                    clear hK K
                    try simp only [Act.put, List.setIfInBounds_toArray, List.set_cons_zero, List.set_cons_succ]
                    refine wpAnyH_ready (rs := [9]) (by kernel_rfl) (by simp) ?_
                    refine AllReadyH.cons (o := { dst := some 81, op := Op.load 41 (Operand.tmp 80), type := 41, pos := "ref.go:99", after := #[{ on := 8, ground := Ground.data }], guard := none }) rfl (fun K hK => ?_) (AllReadyH.nil)
                    go_simp
                    skip
                    refine hK.out _ _ ?_ (fun hHeld => ?_)
                    · trivial
                    clear hK K
                    try simp only [Act.put, List.setIfInBounds_toArray, List.set_cons_zero, List.set_cons_succ]
                    refine wpAnyH_take (i := 14) (oi := { dst := some 86, op := Op.indexAddr 22 (Operand.tmp 72) (Operand.tmp 73), type := 0, pos := "ref.go:99", after := #[{ on := 0, ground := Ground.data }, { on := 1, ground := Ground.data }, { on := 0, ground := Ground.phase }, { on := 1, ground := Ground.phase }, { on := 2, ground := Ground.textOnly Departure.lateStores }, { on := 3, ground := Ground.textOnly Departure.lateStores }, { on := 4, ground := Ground.textOnly Departure.lateStores }, { on := 5, ground := Ground.phase }, { on := 6, ground := Ground.phase }, { on := 7, ground := Ground.phase }, { on := 8, ground := Ground.phase }, { on := 9, ground := Ground.phase }, { on := 10, ground := Ground.textOnly Departure.lateStores }, { on := 11, ground := Ground.textOnly Departure.lateStores }, { on := 12, ground := Ground.textOnly Departure.lateStoresUnsure }, { on := 13, ground := Ground.phase }], guard := none }) (v := ?_) rfl (by kernel_rfl) (by kernel_rfl) (by kernel_rfl) (fun _ _ _ h => h) (Or.inl ⟨by rfl, ?_⟩) (by assumption) ?_
                    rotate_left
                    · intro w_ hSw; (try dsimp only at hSw); go_simp; first | done | with_reducible rfl
                    try simp only [Act.put, List.setIfInBounds_toArray, List.set_cons_zero, List.set_cons_succ]
                    refine wpAnyH_ready (rs := [15]) (by kernel_rfl) (by simp) ?_
                    refine AllReadyH.cons (o := { dst := none, op := Op.store 41 (Operand.tmp 86) (Operand.tmp 81), type := 0, pos := "ref.go:99", after := #[{ on := 14, ground := Ground.data }, { on := 9, ground := Ground.data }, { on := 0, ground := Ground.phase }, { on := 1, ground := Ground.phase }, { on := 2, ground := Ground.textOnly Departure.lateStores }, { on := 3, ground := Ground.textOnly Departure.lateStores }, { on := 4, ground := Ground.textOnly Departure.lateStores }, { on := 5, ground := Ground.phase }, { on := 6, ground := Ground.phase }, { on := 7, ground := Ground.phase }, { on := 8, ground := Ground.phase }, { on := 9, ground := Ground.phase }, { on := 10, ground := Ground.textOnly Departure.lateStores }, { on := 11, ground := Ground.textOnly Departure.lateStores }, { on := 12, ground := Ground.textOnly Departure.lateStoresUnsure }, { on := 13, ground := Ground.phase }], guard := none }) rfl (fun K hK => ?_) (AllReadyH.nil)
                    go_simp
                    skip
                    refine hK.out _ _ ?_ (fun hHeld => ?_)
                    · trivial
                    clear hK K
                    try simp only [Act.put, List.setIfInBounds_toArray, List.set_cons_zero, List.set_cons_succ]
                    refine wpAnyH_take (i := 16) (oi := { dst := some 87, op := Op.indexAddr 22 (Operand.tmp 74) (Operand.tmp 76), type := 0, pos := "ref.go:99", after := #[{ on := 2, ground := Ground.data }, { on := 4, ground := Ground.data }, { on := 0, ground := Ground.phase }, { on := 1, ground := Ground.phase }, { on := 2, ground := Ground.phase }, { on := 3, ground := Ground.phase }, { on := 4, ground := Ground.phase }, { on := 5, ground := Ground.phase }, { on := 6, ground := Ground.phase }, { on := 7, ground := Ground.phase }, { on := 8, ground := Ground.phase }, { on := 9, ground := Ground.phase }, { on := 10, ground := Ground.phase }, { on := 11, ground := Ground.phase }, { on := 12, ground := Ground.phase }, { on := 13, ground := Ground.phase }, { on := 14, ground := Ground.phase }, { on := 15, ground := Ground.phase }], guard := none }) (v := ?_) rfl (by kernel_rfl) (by kernel_rfl) (by kernel_rfl) (fun _ _ _ h => h) (Or.inl ⟨by rfl, ?_⟩) (by assumption) ?_
                    rotate_left
                    · intro w_ hSw; (try dsimp only at hSw); go_simp; first | done | with_reducible rfl
                    try simp only [Act.put, List.setIfInBounds_toArray, List.set_cons_zero, List.set_cons_succ]
                    refine wpAnyH_ready (rs := [17]) (by kernel_rfl) (by simp) ?_
                    refine AllReadyH.cons (o := { dst := none, op := Op.store 41 (Operand.tmp 87) (Operand.tmp 85), type := 0, pos := "ref.go:99", after := #[{ on := 16, ground := Ground.data }, { on := 13, ground := Ground.data }, { on := 15, ground := Ground.chain }, { on := 0, ground := Ground.phase }, { on := 1, ground := Ground.phase }, { on := 2, ground := Ground.phase }, { on := 3, ground := Ground.phase }, { on := 4, ground := Ground.phase }, { on := 5, ground := Ground.phase }, { on := 6, ground := Ground.phase }, { on := 7, ground := Ground.phase }, { on := 8, ground := Ground.phase }, { on := 9, ground := Ground.phase }, { on := 10, ground := Ground.phase }, { on := 11, ground := Ground.phase }, { on := 12, ground := Ground.phase }, { on := 13, ground := Ground.phase }, { on := 14, ground := Ground.phase }, { on := 15, ground := Ground.phase }], guard := none }) rfl (fun K hK => ?_) (AllReadyH.nil)
                    go_simp
                    skip
                    refine hK.out _ _ ?_ (fun hHeld => ?_)
                    · trivial
                    clear hK K
                    try simp only [Act.put, List.setIfInBounds_toArray, List.set_cons_zero, List.set_cons_succ]
                    refine wpAnyH_done (by kernel_rfl) ?_ _
                    go_wp2
                    go_roundw
                    case rel => exact ⟨Q, p :: P2, rfl, Lib.hid (by rw [← hPP.out]; simp), Lib.hid (by have h := (own_setd (own_setd HO4.out (Q.length + 1) (by simp) p) Q.length (by simp) y).drew; rw [set_bub2] at h; exact h), HGT, Lib.hid (bl_drew (by repeat (first | exact HB4.out | refine Below.setCell ?_ hgB _)))⟩
                    case measure => simp [intOf]; try omega
                | false =>
                  have HC := Lib.hid hlp
                  have HIN := Lib.hid (show DOk l m (k + 1) ((Q ++ [p]) ++ y :: P2) by
                    have h := dok_new SM.out (P1 := Q ++ [p]) HD1.out hlt HNO.out (fun d hd => by have := hgt.out d hd; rwa [HY.out] at this) (.inr ⟨Q, p, rfl, by rw [← HY.out]; exact hlp⟩)
                    rw [← HY.out] at h; exact h)
                  clear hlp
                  go_wp2
                  refine over_region (W := wr) (by kernel_rfl) (by kernel_rfl) (by repeat (first | exact Below.refl _ _ | refine bl_drewN ?_ _ | refine bl_drew ?_ | refine bl_alloc ?_ _)) ?_
                  repeat (go_big_quiet_step ((go_at_call 81; exact over_of (ahead_is y p _ HC.out _))))
                  refine wpQuiet_nil ?_
                  intro _ hx_
                  obtain ⟨x_, hx_⟩ := hx_
                  subst hx_
                  obtain ⟨w6, hb6⟩ := x_
                  dsimp only
                  have HO4 := Lib.hid (HO3.out.below hb6)
                  have HB4 := Lib.hid (bl_then hbl.out hb6)
                  clear k0 k1 k2 k3 hb6
                  go_wp2
                  go_roundw
                  case rel => exact ⟨_, k + 1, (Q ++ [p]) ++ y :: P2, rfl, by omega, by go_num, HIN, Lib.hid (by have h1 := hPL.out; rw [← hPP.out] at h1; simp at h1 ⊢; omega), Lib.hid (by have := HO4.out; simpa using this), HB4⟩
                  case measure => simp [intOf]; omega
        · obtain rfl : k = m.length := by omega
          have HE := Lib.hid (dok_end SL.out SM.out hD.out)
          go_wp2
          go_ret
          exact ⟨_, rfl, by rw [← HE.out]; exact ho.out.base LW.out.size, bl_then LW.out hbl.out⟩
end Go.Proofs.Ytljfigikkajlnaa
