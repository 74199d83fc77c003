/- DERIVED. Chapter 13's own helper turned: other counts and other values at their places. -/
import Derived.Test.YtljfigikkajlnaaVObSpoil
import Derived.Laws.Strings3
namespace Go.Proofs.Ytljfigikkajlnaa
open Go.RowKit Go.Lib
set_option linter.unusedVariables false
set_option linter.unusedSimpArgs false
theorem set_noop {α : Type} {l : List α} {i : Nat} {v : α} (h : l[i]? = some v) : l.set i v = l := by
  apply List.ext_getElem?
  intro j
  rw [List.getElem?_set]
  by_cases e : i = j
  · subst e
    rw [if_pos rfl, h]
    split
    · rfl
    · rename_i hl
      rw [List.getElem?_eq_none (by omega)] at h; cases h
  · rw [if_neg e]
theorem ownd_set1 {w : World} {B g n cap : Nat} {l : List Dot} (h : GR.Own dotK w B (.slice (some ⟨g, 0, none⟩) n cap) l) (i : Nat) (hi : i < l.length) (y : Int) :
    GR.Own dotK (w.setCell ⟨g, i * 2 + 1, none⟩ (.int .u64 y)) B (.slice (some ⟨g, 0, none⟩) n cap) (l.set i ⟨l[i].a, y⟩) := by
  obtain rfl := own_n h
  have := (World.ownsRow.stored h (i * 2 + 1) (.int .u64 y)).1
  unfold GR.Own
  have h0 : (GR.cs dotK l)[i * 2]? = some (.int .u32 l[i].a) := GR.cs_at (K := dotK) l i 0 l[i] (List.getElem?_eq_getElem hi) (by decide)
  rw [List.length_set, csd_set l i _ hi]
  rw [show (GR.cs dotK l).set (i * 2) (.int .u32 (⟨l[i].a, y⟩ : Dot).a) = GR.cs dotK l from set_noop h0]
  exact this
theorem owns_set1 {w : World} {B g n cap : Nat} {l : List Sib} (h : GR.Own sibK w B (.slice (some ⟨g, 0, none⟩) n cap) l) (i : Nat) (hi : i < l.length) (u : ByteArray) :
    GR.Own sibK (w.setCell ⟨g, i * 4 + 3, none⟩ (.string u)) B (.slice (some ⟨g, 0, none⟩) n cap) (l.set i ⟨l[i].d, l[i].gone, u⟩) := by
  obtain rfl := own_n h
  have := (World.ownsRow.stored h (i * 4 + 3) (.string u)).1
  unfold GR.Own
  have h0 : (GR.cs sibK l)[i * 4]? = some (.int .u32 l[i].d.a) := GR.cs_at (K := sibK) l i 0 l[i] (List.getElem?_eq_getElem hi) (by decide)
  have h1 : (GR.cs sibK l)[i * 4 + 1]? = some (.int .u64 l[i].d.n) := GR.cs_at (K := sibK) l i 1 l[i] (List.getElem?_eq_getElem hi) (by decide)
  have h2 : (GR.cs sibK l)[i * 4 + 2]? = some (.bool l[i].gone) := GR.cs_at (K := sibK) l i 2 l[i] (List.getElem?_eq_getElem hi) (by decide)
  rw [List.length_set, css_set l i _ hi, set_noop h0, set_noop h1, set_noop h2]
  exact this
theorem chg_drew1 {S : Nat → Prop} {w w' : World} (h : Chg S w w') : Chg S w w'.drew := h.then ⟨rfl, rfl, rfl, Nat.le_refl _, fun _ _ _ => rfl⟩
theorem OwnS.drew1 {w : World} {B : Nat} {u v : Value} {a : List Dot} {l : List Sib} (h : OwnS w B u v a l) : OwnS w.drew B u v a l := h.below (bl_drew (Below.refl _ _))
def tD (d : Dot) : Dot := ⟨d.a, IntKind.u64.wrap (d.n + 1)⟩
def tS (x : Sib) : Sib := if x.gone then x else ⟨x.d, x.gone, ⟨#[43]⟩ ++ x.v⟩
def tk {α : Type} (f : α → α) (k : Nat) (l : List α) : List α := (l.take k).map f ++ l.drop k
theorem tk_len {α : Type} (f : α → α) (k : Nat) (l : List α) : (tk f k l).length = l.length := by
  rw [tk, List.length_append, List.length_map, List.length_take, List.length_drop]; omega
theorem tk_zero {α : Type} (f : α → α) (l : List α) : tk f 0 l = l := by simp [tk]
theorem tk_all {α : Type} (f : α → α) (l : List α) : tk f l.length l = l.map f := by simp [tk]
theorem tk_at {α : Type} (f : α → α) {k : Nat} {l : List α} (r : List α) (h : k < l.length) : (tk f k l ++ r)[k]'(by rw [List.length_append, tk_len]; omega) = l[k] := by
  have e : (tk f k l ++ r)[k]? = some l[k] := by
    rw [List.getElem?_append_left (by rw [tk_len]; exact h), tk, List.getElem?_append_right (by rw [List.length_map, List.length_take]; omega)]
    rw [List.length_map, List.length_take, List.getElem?_drop, show k + (k - min k l.length) = k by omega, List.getElem?_eq_getElem h]
  rw [List.getElem?_eq_getElem (by rw [List.length_append, tk_len]; omega)] at e
  exact Option.some.inj e
theorem tk_set {α : Type} (f : α → α) {k : Nat} {l : List α} (r : List α) (h : k < l.length) : (tk f k l ++ r).set k (f l[k]) = tk f (k + 1) l ++ r := by
  rw [List.set_append_left _ _ (by rw [tk_len]; exact h)]
  congr 1
  rw [tk, tk, List.set_append_right _ _ (by rw [List.length_map, List.length_take]; omega)]
  rw [List.length_map, List.length_take, show k - min k l.length = 0 by omega, List.drop_eq_getElem_cons h, List.set_cons_zero, List.take_succ_eq_append_getElem h, List.map_append]
  simp
theorem tk_same {α : Type} (f : α → α) {k : Nat} {l : List α} (h : k < l.length) (he : f l[k] = l[k]) : tk f (k + 1) l = tk f k l := by
  rw [tk, tk, List.take_succ_eq_append_getElem h, List.drop_eq_getElem_cons h, List.map_append]
  simp [he]
set_option maxRecDepth 100000 in
set_option maxHeartbeats 6400000 in
theorem turned_any (B0 : Nat) (key : ByteArray) (g1 g2 n m c1 c2 d1 d2 : Nat) (a ra : List Dot) (l rl : List Sib) (w : World) (ho : OwnS w B0 (.slice (some ⟨g1, 0, none⟩) n c1) (.slice (some ⟨g2, 0, none⟩) m c2) (a ++ ra) (l ++ rl)) (sa : a.length * 16 ≤ 140737488351232) (sl : l.length * 40 ≤ 140737488351232) (hv : ∀ x ∈ l, x.v.size ≤ 140737488355320) :
    Calls Try.prog 20 #[.agg #[.string key, .slice (some ⟨g1, 0, none⟩) a.length d1, .slice (some ⟨g2, 0, none⟩) l.length d2]] w fun e w' => e = .returned (.tuple #[]) ∧ OwnS w' B0 (.slice (some ⟨g1, 0, none⟩) n c1) (.slice (some ⟨g2, 0, none⟩) m c2) (a.map tD ++ ra) (l.map tS ++ rl) ∧ Chg (rows2 (.slice (some ⟨g1, 0, none⟩) n c1) (.slice (some ⟨g2, 0, none⟩) m c2)) w w' := by
  have HO := Lib.hid ho
  have HV := Lib.hid hv
  clear ho hv
  go_enter Try.func20, Try.ntmps20
  go_wp2
  obtain ⟨W1, hW1⟩ : ∃ W1 : World, W1 = w.alloc (.cells #[.string key, .slice (some ⟨g1, 0, none⟩) a.length d1, .slice (some ⟨g2, 0, none⟩) l.length d2] 27) := ⟨_, rfl⟩
  rw [← hW1]
  have LW : Hid (Below w.heap.size w W1) := Lib.hid (by rw [hW1]; exact (by repeat (first | exact Below.refl _ _ | refine bl_drewN ?_ _ | refine bl_drew ?_ | refine bl_alloc ?_ _)))
  have XO : Hid (GR.Blk W1 w.heap.size 27 #[.string key, .slice (some ⟨g1, 0, none⟩) a.length d1, .slice (some ⟨g2, 0, none⟩) l.length d2]) := Lib.hid (by rw [hW1]; exact GR.Blk.new _ _ _)
  clear hW1
  have HO1 := Lib.hid (HO.out.below LW.out)
  have hne1 : w.heap.size ≠ g1 := by have := (HO.out.d.lt g1 rfl).2; omega
  have hne2 : w.heap.size ≠ g2 := by have := (HO.out.s.lt g2 rfl).2; omega
  go_loopw [2] (fun i w' => ∃ (k : Nat), k ≤ a.length ∧ i = .int .i64 k ∧ Hid (OwnS w' B0 (.slice (some ⟨g1, 0, none⟩) n c1) (.slice (some ⟨g2, 0, none⟩) m c2) (tk tD k a ++ ra) (l ++ rl)) ∧ Hid (GR.Blk w' w.heap.size 27 #[.string key, .slice (some ⟨g1, 0, none⟩) a.length d1, .slice (some ⟨g2, 0, none⟩) l.length d2]) ∧ Hid (Chg (rows2 (.slice (some ⟨g1, 0, none⟩) n c1) (.slice (some ⟨g2, 0, none⟩) m c2)) W1 w')) (fun i _ => a.length - (intOf i).toNat)
  case atStart => exact ⟨0, Nat.zero_le _, rfl, Lib.hid (by rw [tk_zero]; exact HO1.out), XO, Lib.hid (Chg.refl _ _)⟩
  case round =>
    obtain ⟨k, hk, rfl, ho, hx, hc⟩ := hrel
    have o1 : wr.cell? ⟨w.heap.size, 1, none⟩ = some (.slice (some ⟨g1, 0, none⟩) a.length d1) := hx.out.cell 1
    have o2 : wr.cell? ⟨w.heap.size, 2, none⟩ = some (.slice (some ⟨g2, 0, none⟩) l.length d2) := hx.out.cell 2
    by_cases hlt : k < a.length
    · have hcell := GR.Own.cells ho.out.d k (by rw [List.length_append, tk_len]; omega)
      rw [tk_at tD ra hlt] at hcell
      obtain ⟨x1, f1⟩ := hcell 1 _ rfl
      replace x1 : wr.cell? ⟨g1, k * 2 + 1, none⟩ = some (.int .u64 a[k].n) := x1
      replace f1 : wr.frozen? ⟨g1, k * 2 + 1, none⟩ = false := f1
      have i0 : (0 : Int) ≤ (k : Int) := by omega
      have i1 : (k : Int) < (a.length : Int) := by omega
      have HS := Lib.hid (ownd_set1 ho.out.d k (by rw [List.length_append, tk_len]; omega) (IntKind.u64.wrap (a[k].n + 1)))
      rw [tk_at tD ra hlt] at HS
      have HT := Lib.hid (tk_set tD ra hlt)
      have HC1 : Hid (Chg (fun i => i = g1) wr (wr.setCell ⟨g1, k * 2 + 1, none⟩ (.int .u64 (IntKind.u64.wrap (a[k].n + 1))))) := Lib.hid (chg_set _ _ (.inl rfl))
      have HS2 := Lib.hid (own_chg ho.out.s HC1.out (fun i hi e => own_ne ho.out.s ho.out.d (by decide) i hi (by rw [e]; rfl)))
      have HB2 := Lib.hid (blk_chg hx.out HC1.out hne1)
      have HR2 : Hid (Chg (rows2 (.slice (some ⟨g1, 0, none⟩) n c1) (.slice (some ⟨g2, 0, none⟩) m c2)) W1 (wr.setCell ⟨g1, k * 2 + 1, none⟩ (.int .u64 (IntKind.u64.wrap (a[k].n + 1))))) := Lib.hid (hc.out.then (chg_set _ _ (.inl (.inl rfl))))
      clear hcell
      go_wp2
      go_region
      all_goals
        go_wp2
        go_roundw
        case rel => exact ⟨k + 1, by omega, by go_num, Lib.hid (by rw [← HT.out]; exact OwnS.drew1 ⟨HS.out, HS2.out⟩), Lib.hid (GR.Blk.drew HB2.out), Lib.hid (chg_drew1 HR2.out)⟩
        case measure => simp [intOf]; omega
    · obtain rfl : k = a.length := by omega
      have ho2 : Hid (OwnS wr B0 (.slice (some ⟨g1, 0, none⟩) n c1) (.slice (some ⟨g2, 0, none⟩) m c2) (a.map tD ++ ra) (l ++ rl)) := Lib.hid (by have := ho.out; rw [tk_all] at this; exact this)
      clear ho
      go_wp2
      clear o1 o2
      go_loopw [3] (fun i w' => ∃ (k : Nat), k ≤ l.length ∧ i = .int .i64 k ∧ Hid (OwnS w' B0 (.slice (some ⟨g1, 0, none⟩) n c1) (.slice (some ⟨g2, 0, none⟩) m c2) (a.map tD ++ ra) (tk tS k l ++ rl)) ∧ Hid (GR.Blk w' w.heap.size 27 #[.string key, .slice (some ⟨g1, 0, none⟩) a.length d1, .slice (some ⟨g2, 0, none⟩) l.length d2]) ∧ Hid (Chg (rows2 (.slice (some ⟨g1, 0, none⟩) n c1) (.slice (some ⟨g2, 0, none⟩) m c2)) W1 w')) (fun i _ => l.length - (intOf i).toNat)
      case atStart => exact ⟨0, Nat.zero_le _, rfl, Lib.hid (by rw [tk_zero]; exact ho2.out), hx, hc⟩
      case round =>
        obtain ⟨k, hk, rfl, ho, hx, hc⟩ := hrel
        have o1 : wr.cell? ⟨w.heap.size, 1, none⟩ = some (.slice (some ⟨g1, 0, none⟩) a.length d1) := hx.out.cell 1
        have o2 : wr.cell? ⟨w.heap.size, 2, none⟩ = some (.slice (some ⟨g2, 0, none⟩) l.length d2) := hx.out.cell 2
        by_cases hlt : k < l.length
        · have hcell := GR.Own.cells ho.out.s k (by rw [List.length_append, tk_len]; omega)
          rw [tk_at tS rl hlt] at hcell
          obtain ⟨x2, f2⟩ := hcell 2 _ rfl
          obtain ⟨x3, f3⟩ := hcell 3 _ rfl
          replace x2 : wr.cell? ⟨g2, k * 4 + 2, none⟩ = some (.bool l[k].gone) := x2
          replace x3 : wr.cell? ⟨g2, k * 4 + 3, none⟩ = some (.string l[k].v) := x3
          replace f3 : wr.frozen? ⟨g2, k * 4 + 3, none⟩ = false := f3
          have i0 : (0 : Int) ≤ (k : Int) := by omega
          have i1 : (k : Int) < (l.length : Int) := by omega
          have hvk := HV.out l[k] (List.getElem_mem hlt)
          clear hcell f2
          cases hg : l[k].gone with
          | true =>
            rw [hg] at x2
            have HT := Lib.hid (tk_same tS hlt (by rw [tS, hg]; rfl))
            clear hvk hg
            go_wp2
            go_roundw
            case rel => exact ⟨k + 1, by omega, by go_num, Lib.hid (by rw [HT.out]; exact ho.out), hx, hc⟩
            case measure => simp [intOf]; omega
          | false =>
            rw [hg] at x2
            have hcat : ∀ W, (Op.stringOp .add ⟨#[43]⟩ l[k].v).run Try.prog W = .ok (.string (⟨#[43]⟩ ++ l[k].v)) W := fun W => run_string_add_sum W _ _ (by show 1 + l[k].v.size ≤ _; omega)
            have hts : tS l[k] = ⟨l[k].d, l[k].gone, ⟨#[43]⟩ ++ l[k].v⟩ := by rw [tS, hg]; rfl
            have HS := Lib.hid (owns_set1 ho.out.s k (by rw [List.length_append, tk_len]; omega) (⟨#[43]⟩ ++ l[k].v))
            rw [tk_at tS rl hlt] at HS
            have HT := Lib.hid (tk_set tS rl hlt)
            rw [hts] at HT
            have HC1 : Hid (Chg (fun i => i = g2) wr (wr.setCell ⟨g2, k * 4 + 3, none⟩ (.string (⟨#[43]⟩ ++ l[k].v)))) := Lib.hid (chg_set _ _ (.inl rfl))
            have HS2 := Lib.hid (own_chg ho.out.d HC1.out (fun i hi e => own_ne ho.out.d ho.out.s (by decide) i hi (by rw [e]; rfl)))
            have HB2 := Lib.hid (blk_chg hx.out HC1.out hne2)
            have HR2 : Hid (Chg (rows2 (.slice (some ⟨g1, 0, none⟩) n c1) (.slice (some ⟨g2, 0, none⟩) m c2)) W1 (wr.setCell ⟨g2, k * 4 + 3, none⟩ (.string (⟨#[43]⟩ ++ l[k].v)))) := Lib.hid (hc.out.then (chg_set _ _ (.inl (.inr rfl))))
            clear hvk hg hts
            go_wp2
            go_region
            all_goals
              go_wp2
              go_roundw
              case rel => exact ⟨k + 1, by omega, by go_num, Lib.hid (by rw [← HT.out]; exact OwnS.drew1 ⟨HS2.out, HS.out⟩), Lib.hid (GR.Blk.drew HB2.out), Lib.hid (chg_drew1 HR2.out)⟩
              case measure => simp [intOf]; omega
        · obtain rfl : k = l.length := by omega
          have ho3 : Hid (OwnS wr B0 (.slice (some ⟨g1, 0, none⟩) n c1) (.slice (some ⟨g2, 0, none⟩) m c2) (a.map tD ++ ra) (l.map tS ++ rl)) := Lib.hid (by have := ho.out; rw [tk_all] at this; exact this)
          clear ho
          go_wp2
          exact bodyPost_end (results_none rfl _ _ _) rfl ⟨rfl, ho3.out, (chg_bl LW.out).then hc.out⟩
end Go.Proofs.Ytljfigikkajlnaa
