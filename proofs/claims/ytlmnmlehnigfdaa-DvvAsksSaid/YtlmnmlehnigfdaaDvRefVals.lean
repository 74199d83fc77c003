/- DERIVED. The document's Values: a value is laid into its place from behind. -/
import Derived.Test.YtlmnmlehnigfdaaDvVals2
import Derived.Test.YtlmnmlehnigfdaaDvRefValid
import Derived.Test.YtlmnmlehnigfdaaDvHeap
import Derived.Test.YtlmnmlehnigfdaaOver
import Derived.WalkMore
namespace Go.Proofs.Ytlmnmlehnigfdaa
open Go.RowKit
set_option linter.unusedVariables false
set_option linter.unusedSimpArgs false

theorem css1_set (l : List ByteArray) (i : Nat) (x : ByteArray) : GR.cs strK (l.set i x) = (GR.cs strK l).set i (.string x) := by
  induction l generalizing i with
  | nil => rfl
  | cons y l ih =>
    cases i with
    | zero => rfl
    | succ i =>
      rw [List.set_cons_succ, GR.cs_cons, GR.cs_cons, ih i]
      rfl
theorem ownv_set {w : World} {B g n cap : Nat} {l : List ByteArray} (h : GR.Own strK w B (.slice (some ⟨g, 0, none⟩) n cap) l) (i : Nat) (x : ByteArray) :
    GR.Own strK (w.setCell ⟨g, i, none⟩ (.string x)) B (.slice (some ⟨g, 0, none⟩) n cap) (l.set i x) := by
  obtain rfl := own_n h
  have := (World.ownsRow.stored h i (.string x)).1
  unfold GR.Own
  rw [List.length_set, css1_set l i x]
  exact this
theorem ownv_cell {w : World} {B g n cap : Nat} {l : List ByteArray} (h : GR.Own strK w B (.slice (some ⟨g, 0, none⟩) n cap) l) {i : Nat} {x : ByteArray} (hx : l[i]? = some x) : w.cell? ⟨g, i, none⟩ = some (.string x) ∧ w.frozen? ⟨g, i, none⟩ = false := by
  obtain ⟨hi, rfl⟩ := List.getElem?_eq_some_iff.1 hx
  have := h.cells i hi 0 _ rfl
  simpa [strK] using this
theorem has_snoc {L : List ByteArray} {v : ByteArray} {j : Nat} (h : j < L.length) : hasV (L.take (j + 1)) v = (hasV (L.take j) v || (L[j].toList == v.toList)) := by
  unfold hasV
  rw [List.take_succ_eq_append_getElem h, List.any_append, str_eq]
  simp only [List.any_cons, List.any_nil, Bool.or_false]
  congr 1
  rw [decide_eq_decide]
  exact ⟨fun h => ByteArray.ext h, fun h => by rw [h]⟩
/-- The row while a value goes forward. -/
def rowV (acc : List ByteArray) (v : ByteArray) (j : Nat) : List ByteArray := acc.take j ++ v :: acc.drop j
theorem rowV_len {acc : List ByteArray} {v : ByteArray} {j : Nat} (h : j ≤ acc.length) : (rowV acc v j).length = acc.length + 1 := by simp [rowV]; omega
theorem rowV_at {acc : List ByteArray} {v : ByteArray} {j : Nat} (h : j ≤ acc.length) : (rowV acc v j)[j]? = some v := by
  unfold rowV
  rw [List.getElem?_append_right (by simp; omega)]
  have : j - (acc.take j).length = 0 := by simp; omega
  rw [this]; rfl
theorem rowV_prev {acc : List ByteArray} {v : ByteArray} {p : Nat} (h : p < acc.length) : (rowV acc v (p + 1))[p]? = some acc[p] := by
  unfold rowV
  rw [List.getElem?_append_left (by simp; omega), List.getElem?_take_of_lt (by omega), List.getElem?_eq_getElem h]
theorem rowV_swap {acc : List ByteArray} {v : ByteArray} {p : Nat} (h : p < acc.length) : ((rowV acc v (p + 1)).set (p + 1) acc[p]).set p v = rowV acc v p := by
  apply List.ext_getElem?
  intro i
  unfold rowV
  have e1 : (acc.take (p + 1)).length = p + 1 := by simp; omega
  have e2 : (acc.take p).length = p := by simp; omega
  rcases Nat.lt_trichotomy i p with h1 | h1 | h1
  · rw [List.getElem?_set_ne (by omega), List.getElem?_set_ne (by omega), List.getElem?_append_left (by omega), List.getElem?_append_left (by omega), List.getElem?_take_of_lt (by omega), List.getElem?_take_of_lt (by omega)]
  · subst h1
    rw [List.getElem?_set_self (by simp; omega), List.getElem?_append_right (by omega), e2, Nat.sub_self]; rfl
  · rw [List.getElem?_set_ne (by omega)]
    rcases Nat.lt_or_ge (p + 1) i with h2 | h2
    · rw [List.getElem?_set_ne (by omega), List.getElem?_append_right (by omega), List.getElem?_append_right (by omega), e1, e2]
      obtain ⟨t, rfl⟩ : ∃ t, i = p + 1 + t + 1 := ⟨i - p - 2, by omega⟩
      rw [show p + 1 + t + 1 - (p + 1) = t + 1 by omega, show p + 1 + t + 1 - p = t + 1 + 1 by omega, List.getElem?_cons_succ, List.getElem?_cons_succ, List.getElem?_drop, List.getElem?_drop]
      congr 1; omega
    · obtain rfl : i = p + 1 := by omega
      rw [List.getElem?_set_self (by simp; omega), List.getElem?_append_right (by omega), e2, show p + 1 - p = 0 + 1 by omega, List.getElem?_cons_succ, List.getElem?_drop, Nat.add_zero, List.getElem?_eq_getElem h]
theorem rowV_done : ∀ {acc : List ByteArray} {v : ByteArray} {j : Nat}, j ≤ acc.length → (∀ t (ht : t < acc.length), t < j → ltK acc[t] v = true) → (∀ t (ht : t < acc.length), j ≤ t → ltK acc[t] v = false) → rowV acc v j = insV v acc
  | [], v, j, _, _, _ => by simp [rowV, insV]
  | y :: L, v, 0, _, _, h2 => by rw [insV_here (show ltK y v = false from h2 0 (by simp) (by omega))]; rfl
  | y :: L, v, i + 1, h, h1, h2 => by
    rw [insV_cons (show ltK y v = true from h1 0 (by simp) (by omega)), ← rowV_done (acc := L) (j := i) (by simpa using h) (fun t ht hti => h1 (t + 1) (by simp; omega) (by omega)) (fun t ht hti => h2 (t + 1) (by simp; omega) (by omega))]
    rfl
theorem rowV_end {acc : List ByteArray} {v : ByteArray} {j : Nat} (hr : VRis acc) (hn : hasV acc v = false) (hj : j ≤ acc.length) (h1 : ∀ t (ht : t < acc.length), j ≤ t → ltK v acc[t] = true) (h2 : ∀ p, j = p + 1 → ∀ (hp : p < acc.length), ltK v acc[p] = false) : rowV acc v j = insV v acc := by
  refine rowV_done hj (fun t ht htj => ?_) (fun t ht hjt => ltK_asymm (h1 t ht hjt))
  obtain ⟨p, rfl⟩ : ∃ p, j = p + 1 := ⟨j - 1, by omega⟩
  have hp : p < acc.length := by omega
  have k1 : ltK acc[p] v = true := by
    rcases ltK_tri acc[p] v with ⟨h, _⟩ | h | ⟨h, _⟩
    · exact h
    · have : hasV acc v = true := hasV_iff.2 (by rw [← h]; exact List.getElem_mem hp)
      rw [hn] at this; cases this
    · rw [h2 p rfl hp] at h; cases h
  rcases Nat.lt_or_ge t p with h | h
  · exact ltK_trans (List.pairwise_iff_getElem.1 hr t p ht hp h) k1
  · obtain rfl : t = p := by omega
    exact k1
theorem fold_snoc {l : List Sib} {k : Nat} (h : k < l.length) : (l.take (k + 1)).foldl addV [] = addV ((l.take k).foldl addV []) l[k] := by
  rw [List.take_succ_eq_append_getElem h, List.foldl_append]; rfl
theorem addV_skip {L : List ByteArray} {x : Sib} (h : (x.gone || hasV L x.v) = true) : addV L x = L := by
  unfold addV
  split
  · rfl
  · rename_i hg
    rw [if_pos (by simpa [hg] using h)]
theorem addV_ins {L : List ByteArray} {x : Sib} (h : (x.gone || hasV L x.v) = false) : addV L x = insV x.v L ∧ hasV L x.v = false := by
  rw [Bool.or_eq_false_iff] at h
  unfold addV
  rw [if_neg (by rw [h.1]; simp), if_neg (by rw [h.2]; simp)]
  exact ⟨rfl, h.2⟩
theorem insV_len (v : ByteArray) (L : List ByteArray) : (insV v L).length = L.length + 1 := by
  induction L with
  | nil => simp [insV]
  | cons y L ih =>
    rcases h : ltK y v with _ | _
    · rw [insV_here h]; simp
    · rw [insV_cons h]; simp [ih]
theorem fold_len (l : List Sib) : ∀ L : List ByteArray, (l.foldl addV L).length ≤ L.length + l.length := by
  induction l with
  | nil => intro L; simp
  | cons x l ih =>
    intro L
    rw [List.foldl_cons]
    have h1 := ih (addV L x)
    have h2 : (addV L x).length ≤ L.length + 1 := by
      unfold addV
      split
      · omega
      · split
        · omega
        · rw [insV_len]; omega
    simp at h1 ⊢; omega

set_option maxRecDepth 100000 in
set_option maxHeartbeats 6400000 in
theorem refValues_any (A B : Option Addr) (c d : Nat) (a : List Dot) (l : List Sib) (w : World) (ha : GR.Rd dotK w A a) (hl : GR.Rd sibK w B l) (na : ∀ d ∈ a, 0 ≤ d.n) (nl : ∀ x ∈ l, 0 ≤ x.d.n) :
    Calls Try.prog 27 #[.agg #[.slice A a.length c, .slice B l.length d]] w fun e w' => ∃ v, e = .returned v ∧ GR.Own strK w' w.heap.size v (valsA a l) ∧ Below w.heap.size w w' := by
  obtain ⟨j0, hj0, jz0, jz1, jz2⟩ := info_parts str_info
  have hml : l.length * 40 ≤ 140737488355328 := hl.max
  have HA := Lib.hid ha
  have HL := Lib.hid hl
  have NA := Lib.hid na
  have NL := Lib.hid nl
  clear ha hl na nl
  go_enter Try.func27, Try.ntmps27
  go_wp2_with fail
  obtain ⟨W1, hW1⟩ : ∃ W1 : World, W1 = w.alloc (.cells #[.slice A a.length c, .slice B l.length d] 25) := ⟨_, rfl⟩
  rw [← hW1]
  have LW : Hid (Below w.heap.size w W1) := Lib.hid (by rw [hW1]; exact (by repeat (first | exact Below.refl _ _ | refine bl_drewN ?_ _ | refine bl_drew ?_ | refine bl_alloc ?_ _)))
  have XA : Hid (GR.Blk W1 w.heap.size 25 #[.slice A a.length c, .slice B l.length d]) := Lib.hid (by rw [hW1]; exact GR.Blk.new _ _ _)
  clear hW1
  refine (refSta_any A B c d a l _ (HA.out.below LW.out) (HL.out.below LW.out) NA.out NL.out).mono ?_
  rintro e w2 ⟨rfl, hb2⟩
  have B2 := Lib.hid (bl_then LW.out hb2)
  have X2 := Lib.hid (XA.out.below hb2 XA.out.lt)
  clear hb2
  by_cases h1 : staB a l = false
  · rw [h1]
    go_wp2
    go_ret
    exact ⟨_, rfl, by rw [valsA, h1]; exact GR.Own.nil _ _ _, (by repeat (first | exact B2.out | refine bl_drewN ?_ _ | refine bl_drew ?_ | refine bl_alloc ?_ _))⟩
  · replace h1 : staB a l = true := by simpa using h1
    rw [h1]
    have h64 : l.length ≤ 64 := (sta_ok h1).2.1
    have HV := Lib.hid (show valsA a l = valsS l by rw [valsA, h1]; rfl)
    have hg2 : w.heap.size < w2.heap.size := X2.out.lt
    clear h1
    go_wp2
    go_loopw [3, 4] (fun v0 i w' => ∃ (k : Nat) (v : Value) (acc : List ByteArray), v = v0 ∧ i = .int .i64 k ∧ k ≤ l.length ∧ Hid (acc = (l.take k).foldl addV []) ∧ Hid (GR.Own strK w' w2.heap.size v acc) ∧ Hid (Below w2.heap.size w2 w')) (fun _ i _ => l.length - (intOf i).toNat)
    case atStart => exact ⟨0, .slice none 0 0, [], rfl, rfl, Nat.zero_le _, Lib.hid (by simp), Lib.hid (GR.Own.nil _ _ _), Lib.hid (by repeat (first | exact Below.refl _ _ | refine bl_drewN ?_ _ | refine bl_drew ?_ | refine bl_alloc ?_ _))⟩
    case round =>
      obtain ⟨k, v, acc, rfl, rfl, hk, hacc, ho, hb⟩ := hrel
      have hbs : w2.heap.size ≤ wr.heap.size := hb.out.size
      have hal : acc.length ≤ 64 := by rw [hacc.out]; exact Nat.le_trans (fold_len _ _) (by simp; omega)
      have ps_0 : wr.cell? ⟨w.heap.size, 0, none⟩ = some (.slice A a.length c) := (X2.out.below hb.out hg2).cell 0
      have ps_1 : wr.cell? ⟨w.heap.size, 1, none⟩ = some (.slice B l.length d) := (X2.out.below hb.out hg2).cell 1
      by_cases hlt : k < l.length
      · have i0 : (0 : Int) ≤ (k : Int) := by omega
        have i1 : (k : Int) < (l.length : Int) := by omega
        have HF := Lib.hid (fold_snoc hlt)
        obtain ⟨ad, eB, _, x0, x1, x2, x3⟩ := sib_at (HL.out.below (bl_then B2.out hb.out)) k hlt
        rw [eB] at ps_1
        clear eB x0 x1
        obtain ⟨Av, nv, cv, rfl⟩ := own_slice ho.out (by show acc.length * 16 ≤ _; omega)
        obtain rfl : nv = acc.length := own_n' ho.out
        go_wp2
        clear x2 x3 ps_0 ps_1
        go_loopw [6, 7] (fun th kk w' => ∃ (j : Nat) (b : Bool), kk = .int .i64 j ∧ th = .bool b ∧ j ≤ acc.length ∧ Hid (b = (l[k].gone || hasV (acc.take j) l[k].v)) ∧ Hid (Below wr.heap.size wr w')) (fun _ kk _ => acc.length - (intOf kk).toNat)
        case atStart => exact ⟨0, _, rfl, rfl, Nat.zero_le _, Lib.hid (by simp [hasV]), Lib.hid (by repeat (first | exact Below.refl _ _ | refine bl_drewN ?_ _ | refine bl_drew ?_ | refine bl_alloc ?_ _))⟩
        case round =>
          rename_i wr0
          obtain ⟨j, b, rfl, rfl, hj, hbb, hw⟩ := hrel
          by_cases hjt : j < acc.length
          · have k0 : (0 : Int) ≤ (j : Int) := by omega
            have k1 : (j : Int) < (acc.length : Int) := by omega
            obtain ⟨bd, eA, _, y0⟩ := str_at ((GR.Own.rd ho.out (show acc.length * 16 ≤ 140737488355328 by omega)).2.2.below hw.out) j hjt
            subst eA
            rcases b with _ | _
            · have HS := Lib.hid (show (acc[j].toList == l[k].v.toList) = (l[k].gone || hasV (acc.take (j + 1)) l[k].v) by rw [has_snoc hjt, ← Bool.or_assoc, ← hbb.out]; rfl)
              go_wp2
              go_roundw
              case rel => exact ⟨j + 1, _, by go_num, rfl, by omega, HS, hw⟩
              case measure => simp [intOf]; omega
            · have HS := Lib.hid (show true = (l[k].gone || hasV (acc.take (j + 1)) l[k].v) by rw [has_snoc hjt, ← Bool.or_assoc, ← hbb.out]; rfl)
              go_wp2
              go_roundw
              case rel => exact ⟨j + 1, _, by go_num, rfl, by omega, HS, hw⟩
              case measure => simp [intOf]; omega
          · obtain rfl : j = acc.length := by omega
            rw [List.take_length] at hbb
            have O3 := Lib.hid (ho.out.below hw.out)
            have B3 := Lib.hid (bl_then hb.out hw.out)
            have h3 : w2.heap.size ≤ wr.heap.size := B3.out.size
            rcases b with _ | _
            · have HI := Lib.hid (addV_ins hbb.out.symm)
              have HR := Lib.hid (show VRis acc by rw [hacc.out]; exact fold_ris _ List.Pairwise.nil)
              go_wp2_with (
                at_builtin
                refine GR.app_all (K := strK) rfl (.tmp 47) (.tmp 49) _ rfl Try.underlying49 hj0 jz0 jz1 jz2 rfl w2.heap.size _ acc rfl (O3.out.alloc _) _ 1 1 [l[k].v] rfl rfl (GR.rd_new (K := strK) l[k].v (by simp) (by show 16 ≤ 140737488355328; omega)) (by show (acc.length + 1) * 16 ≤ _; omega) (Nat.le_trans h3 (by simp)) ?_
                intro v3 w3 ho_ hg_ hat_
                obtain ⟨g3, cap3, rfl, hc3, _⟩ := own_lit ho_ (acc.length + 1) (by simp) (by omega)
                have hg3 : w2.heap.size ≤ g3 := (ho_.lt g3 rfl).1
                have O4 := Lib.hid ho_
                have B4 := Lib.hid (Below.grown (B := w2.heap.size) (a := w2) (by repeat (first | exact B3.out | refine bl_drewN ?_ _ | refine bl_drew ?_ | refine bl_alloc ?_ _)) hg_ (Nat.le_trans h3 (by simp)) (fun b hb => (O3.out.lt b hb).1))
                have e1 : IntKind.i64.wrap ((acc.length : Int) + 1 - 1) = (acc.length : Int) := by rw [Int.add_sub_cancel]; exact IntWalk.i64_in _ (by omega)
                clear ho_ hg_ hat_)
              go_loopw [8] (fun jj w' => ∃ j : Nat, jj = .int .i64 j ∧ j ≤ acc.length ∧ Hid (∀ t (ht : t < acc.length), j ≤ t → ltK l[k].v acc[t] = true) ∧ Hid (GR.Own strK w' w2.heap.size (.slice (some ⟨g3, 0, none⟩) (acc.length + 1) cap3) (rowV acc l[k].v j)) ∧ Hid (Below w2.heap.size w2 w')) (fun jj _ => (intOf jj).toNat)
              case atStart => exact ⟨acc.length, rfl, Nat.le_refl _, Lib.hid (fun t ht h => by omega), Lib.hid (by simpa [rowV] using O4.out), B4⟩
              case round =>
                clear O4 B4 e1
                rename_i wr1
                obtain ⟨j, rfl, hj, hgt, hrow, hw3⟩ := hrel
                rcases Nat.eq_zero_or_pos j with rfl | hpos
                · have HE := Lib.hid (rowV_end HR.out HI.out.2 hj hgt.out (fun p hp => by omega))
                  go_wp2
                  refine over_region (W := wr) (by kernel_rfl) (by kernel_rfl) (by repeat (first | exact Below.refl _ _ | refine bl_drewN ?_ _ | refine bl_drew ?_ | refine bl_alloc ?_ _)) ?_
                  repeat (go_big_quiet_step (fail))
                  refine wpQuiet_nil ?_
                  intro _ hx_
                  obtain ⟨x_, hx_⟩ := hx_
                  subst hx_
                  obtain ⟨w20, hb20⟩ := x_
                  dsimp only
                  have O20 := Lib.hid (hrow.out.below hb20)
                  have B20 := Lib.hid (bl_then hw3.out hb20)
                  clear hb20
                  go_wp2
                  go_roundw
                  case rel => exact ⟨k + 1, _, insV l[k].v acc, rfl, by go_num, by omega, Lib.hid (by rw [HF.out, ← hacc.out, HI.out.1]), Lib.hid (by rw [← HE.out]; exact O20.out), B20⟩
                  case measure => simp [intOf]; omega
                · obtain ⟨p, rfl⟩ : ∃ p, j = p + 1 := ⟨j - 1, by omega⟩
                  have hp : p < acc.length := by omega
                  have k0 : (0 : Int) ≤ (p : Int) := by omega
                  have k1 : (p : Int) + 1 < (acc.length : Int) + 1 := by omega
                  have k2 : (p : Int) < (acc.length : Int) + 1 := by omega
                  have k3 : (0 : Int) ≤ (p : Int) + 1 := by omega
                  have e1 : IntKind.i64.wrap ((p : Int) + 1 - 1) = (p : Int) := by rw [Int.add_sub_cancel]; exact IntWalk.i64_in _ (by omega)
                  have e2 : IntKind.i64.wrap (p : Int) = (p : Int) := IntWalk.i64_in _ (by omega)
                  have g1 : decide ((0 : Int) < (p : Int) + 1) = true := decide_eq_true (by omega)
                  have n1 : ((p : Int) + 1).toNat = p + 1 := by omega
                  have hpos := k0
                  obtain ⟨r1, r1f⟩ := ownv_cell hrow.out (rowV_at hj)
                  obtain ⟨r0, r0f⟩ := ownv_cell hrow.out (rowV_prev hp)
                  have or1 := over_cell r1
                  have or0 := over_cell r0
                  clear r1 r0
                  rcases hq : ltK l[k].v acc[p] with _ | _
                  · have q1 : Op.bytesLess l[k].v.toList acc[p].toList = false := by rw [bytes_ltK]; exact hq
                    have HE := Lib.hid (rowV_end HR.out HI.out.2 hj hgt.out (by intro p' e hp'; obtain rfl : p' = p := (by omega); exact hq))
                    clear hq
                    go_wp2
                    refine over_region (W := wr) (by kernel_rfl) (by kernel_rfl) (by repeat (first | exact Below.refl _ _ | refine bl_drewN ?_ _ | refine bl_drew ?_ | refine bl_alloc ?_ _)) ?_
                    repeat (go_big_quiet_step (fail))
                    refine wpQuiet_nil ?_
                    intro _ hx_
                    obtain ⟨x_, hx_⟩ := hx_
                    subst hx_
                    obtain ⟨w20, hb20⟩ := x_
                    dsimp only
                    have O20 := Lib.hid (hrow.out.below hb20)
                    have B20 := Lib.hid (bl_then hw3.out hb20)
                    clear hb20
                    go_wp2
                    go_roundw
                    case rel => exact ⟨k + 1, _, insV l[k].v acc, rfl, by go_num, by omega, Lib.hid (by rw [HF.out, ← hacc.out, HI.out.1]), Lib.hid (by rw [← HE.out]; exact O20.out), B20⟩
                    case measure => simp [intOf]; omega
                  · have q1 : Op.bytesLess l[k].v.toList acc[p].toList = true := by rw [bytes_ltK]; exact hq
                    have HGT : Hid (∀ t (ht : t < acc.length), p ≤ t → ltK l[k].v acc[t] = true) := Lib.hid (fun t ht h => by
                      rcases Nat.lt_or_ge p t with h2 | h2
                      · exact hgt.out t ht (by omega)
                      · obtain rfl : t = p := by omega
                        exact hq)
                    clear hq
                    go_wp2
                    refine over_region (W := wr) (by kernel_rfl) (by kernel_rfl) (by repeat (first | exact Below.refl _ _ | refine bl_drewN ?_ _ | refine bl_drew ?_ | refine bl_alloc ?_ _)) ?_
                    repeat (go_big_quiet_step (fail))
                    refine wpQuiet_nil ?_
                    intro _ hx_
                    obtain ⟨x_, hx_⟩ := hx_
                    subst hx_
                    obtain ⟨w20, hb20⟩ := x_
                    dsimp only
                    have O20 := Lib.hid (hrow.out.below hb20)
                    have B20 := Lib.hid (bl_then hw3.out hb20)
                    have HS := Lib.hid (rowV_swap (v := l[k].v) hp)
                    obtain ⟨r1, r1f⟩ := ownv_cell O20.out (rowV_at hj)
                    obtain ⟨r0, r0f⟩ := ownv_cell O20.out (rowV_prev hp)
                    clear hb20 or1 or0
                    go_wp2
                    refine wp_region_held_drew (S := fun w' => True) (by kernel_rfl) ?_ (fun hHeld => ?_)
                    · exact trivial
                    refine wpAnyH_take (i := 0) (oi := { dst := some 70, op := Op.move (Operand.tmp 3), type := 49, pos := "ref.go:212", after := #[], guard := none }) (v := ?_) rfl (by kernel_rfl) (by kernel_rfl) (by kernel_rfl) (fun _ _ _ h => h) (Or.inl ⟨by rfl, ?_⟩) (by assumption) ?_
                    rotate_left
                    · intro w_ hSw
                      (try dsimp only at hSw)
                      go_simp
                      first | done | with_reducible rfl
                    try simp only [Act.put, List.setIfInBounds_toArray, List.set_cons_zero, List.set_cons_succ]
                    refine wpAnyH_take (i := 1) (oi := { dst := some 71, op := Op.move (Operand.tmp 8), type := 3, pos := "ref.go:212", after := #[], guard := none }) (v := ?_) rfl (by kernel_rfl) (by kernel_rfl) (by kernel_rfl) (fun _ _ _ h => h) (Or.inl ⟨by rfl, ?_⟩) (by assumption) ?_
                    rotate_left
                    · intro w_ hSw
                      (try dsimp only at hSw)
                      go_simp
                      first | done | with_reducible rfl
                    try simp only [Act.put, List.setIfInBounds_toArray, List.set_cons_zero, List.set_cons_succ]
                    refine wpAnyH_take (i := 2) (oi := { dst := some 72, op := Op.move (Operand.tmp 3), type := 49, pos := "ref.go:212", after := #[{ on := 15, ground := Ground.gcOnly Departure.lateStores }], guard := none }) (v := ?_) rfl (by kernel_rfl) (by kernel_rfl) (by kernel_rfl) (fun _ _ _ h => h) (Or.inl ⟨by rfl, ?_⟩) (by assumption) ?_
                    rotate_left
                    · intro w_ hSw
                      (try dsimp only at hSw)
                      go_simp
                      first | done | with_reducible rfl
                    try simp only [Act.put, List.setIfInBounds_toArray, List.set_cons_zero, List.set_cons_succ]
                    refine wpAnyH_take (i := 3) (oi := { dst := some 73, op := Op.move (Operand.tmp 8), type := 3, pos := "ref.go:212", after := #[{ on := 15, ground := Ground.gcOnly Departure.lateStores }], guard := none }) (v := ?_) rfl (by kernel_rfl) (by kernel_rfl) (by kernel_rfl) (fun _ _ _ h => h) (Or.inl ⟨by rfl, ?_⟩) (by assumption) ?_
                    rotate_left
                    · intro w_ hSw
                      (try dsimp only at hSw)
                      go_simp
                      first | done | with_reducible rfl
                    try simp only [Act.put, List.setIfInBounds_toArray, List.set_cons_zero, List.set_cons_succ]
                    refine wpAnyH_take (i := 4) (oi := { dst := some 74, op := Op.binOp BinOp.sub 3 (Operand.tmp 73) (Operand.const (Value.int IntKind.i64 1)) 3, type := 3, pos := "ref.go:212", after := #[{ on := 3, ground := Ground.data }, { on := 15, ground := Ground.gcOnly Departure.lateStores }], guard := none }) (v := ?_) rfl (by kernel_rfl) (by kernel_rfl) (by kernel_rfl) (fun _ _ _ h => h) (Or.inl ⟨by rfl, ?_⟩) (by assumption) ?_
                    rotate_left
                    · intro w_ hSw
                      (try dsimp only at hSw)
                      go_simp
                      first | done | with_reducible rfl
                    try simp only [Act.put, List.setIfInBounds_toArray, List.set_cons_zero, List.set_cons_succ]
                    refine wpAnyH_take (i := 5) (oi := { dst := some 75, op := Op.move (Operand.tmp 3), type := 49, pos := "ref.go:212", after := #[], guard := none }) (v := ?_) rfl (by kernel_rfl) (by kernel_rfl) (by kernel_rfl) (fun _ _ _ h => h) (Or.inl ⟨by rfl, ?_⟩) (by assumption) ?_
                    rotate_left
                    · intro w_ hSw
                      (try dsimp only at hSw)
                      go_simp
                      first | done | with_reducible rfl
                    try simp only [Act.put, List.setIfInBounds_toArray, List.set_cons_zero, List.set_cons_succ]
                    refine wpAnyH_take (i := 6) (oi := { dst := some 76, op := Op.move (Operand.tmp 8), type := 3, pos := "ref.go:212", after := #[], guard := none }) (v := ?_) rfl (by kernel_rfl) (by kernel_rfl) (by kernel_rfl) (fun _ _ _ h => h) (Or.inl ⟨by rfl, ?_⟩) (by assumption) ?_
                    rotate_left
                    · intro w_ hSw
                      (try dsimp only at hSw)
                      go_simp
                      first | done | with_reducible rfl
                    try simp only [Act.put, List.setIfInBounds_toArray, List.set_cons_zero, List.set_cons_succ]
                    refine wpAnyH_take (i := 7) (oi := { dst := some 77, op := Op.binOp BinOp.sub 3 (Operand.tmp 76) (Operand.const (Value.int IntKind.i64 1)) 3, type := 3, pos := "ref.go:212", after := #[{ on := 6, ground := Ground.data }], guard := none }) (v := ?_) rfl (by kernel_rfl) (by kernel_rfl) (by kernel_rfl) (fun _ _ _ h => h) (Or.inl ⟨by rfl, ?_⟩) (by assumption) ?_
                    rotate_left
                    · intro w_ hSw
                      (try dsimp only at hSw)
                      go_simp
                      first | done | with_reducible rfl
                    try simp only [Act.put, List.setIfInBounds_toArray, List.set_cons_zero, List.set_cons_succ]
                    refine wpAnyH_take (i := 8) (oi := { dst := some 78, op := Op.indexAddr 49 (Operand.tmp 75) (Operand.tmp 77), type := 0, pos := "ref.go:212", after := #[{ on := 5, ground := Ground.data }, { on := 7, ground := Ground.data }], guard := none }) (v := ?_) rfl (by kernel_rfl) (by kernel_rfl) (by kernel_rfl) (fun _ _ _ h => h) (Or.inl ⟨by rfl, ?_⟩) (by assumption) ?_
                    rotate_left
                    · intro w_ hSw
                      (try dsimp only at hSw)
                      go_simp
                      first | done | with_reducible rfl
                    try simp only [Act.put, List.setIfInBounds_toArray, List.set_cons_zero, List.set_cons_succ]
                    refine wpAnyH_take (i := 10) (oi := { dst := some 80, op := Op.move (Operand.tmp 3), type := 49, pos := "ref.go:212", after := #[], guard := none }) (v := ?_) rfl (by kernel_rfl) (by kernel_rfl) (by kernel_rfl) (fun _ _ _ h => h) (Or.inl ⟨by rfl, ?_⟩) (by assumption) ?_
                    rotate_left
                    · intro w_ hSw
                      (try dsimp only at hSw)
                      go_simp
                      first | done | with_reducible rfl
                    try simp only [Act.put, List.setIfInBounds_toArray, List.set_cons_zero, List.set_cons_succ]
                    refine wpAnyH_take (i := 11) (oi := { dst := some 81, op := Op.move (Operand.tmp 8), type := 3, pos := "ref.go:212", after := #[], guard := none }) (v := ?_) rfl (by kernel_rfl) (by kernel_rfl) (by kernel_rfl) (fun _ _ _ h => h) (Or.inl ⟨by rfl, ?_⟩) (by assumption) ?_
                    rotate_left
                    · intro w_ hSw
                      (try dsimp only at hSw)
                      go_simp
                      first | done | with_reducible rfl
                    try simp only [Act.put, List.setIfInBounds_toArray, List.set_cons_zero, List.set_cons_succ]
                    refine wpAnyH_take (i := 12) (oi := { dst := some 82, op := Op.indexAddr 49 (Operand.tmp 80) (Operand.tmp 81), type := 0, pos := "ref.go:212", after := #[{ on := 10, ground := Ground.data }, { on := 11, ground := Ground.data }], guard := none }) (v := ?_) rfl (by kernel_rfl) (by kernel_rfl) (by kernel_rfl) (fun _ _ _ h => h) (Or.inl ⟨by rfl, ?_⟩) (by assumption) ?_
                    rotate_left
                    · intro w_ hSw
                      (try dsimp only at hSw)
                      go_simp
                      first | done | with_reducible rfl
                    try simp only [Act.put, List.setIfInBounds_toArray, List.set_cons_zero, List.set_cons_succ]
                    refine wpAnyH_ready (rs := [9, 13]) (by kernel_rfl) (by simp) ?_
                    refine AllReadyH.cons (o := { dst := some 79, op := Op.load 9 (Operand.tmp 78), type := 9, pos := "ref.go:212", after := #[{ on := 8, ground := Ground.data }], guard := none }) rfl (fun K hK => ?_) (AllReadyH.cons (o := { dst := some 83, op := Op.load 9 (Operand.tmp 82), type := 9, pos := "ref.go:212", after := #[{ on := 12, ground := Ground.data }], guard := none }) rfl (fun K hK => ?_) (AllReadyH.nil))
                    · skip
                      go_simp
                      skip
                      refine hK.out _ _ ?_ (fun hHeld => ?_)
                      · exact trivial
                      clear hK K
                      try simp only [Act.put, List.setIfInBounds_toArray, List.set_cons_zero, List.set_cons_succ]
                      refine wpAnyH_ready (rs := [13]) (by kernel_rfl) (by simp) ?_
                      refine AllReadyH.cons (o := { dst := some 83, op := Op.load 9 (Operand.tmp 82), type := 9, pos := "ref.go:212", after := #[{ on := 12, ground := Ground.data }], guard := none }) rfl (fun K hK => ?_) (AllReadyH.nil)
                      go_simp
                      skip
                      refine hK.out _ _ ?_ (fun hHeld => ?_)
                      · exact trivial
                      clear hK K
                      try simp only [Act.put, List.setIfInBounds_toArray, List.set_cons_zero, List.set_cons_succ]
                      refine wpAnyH_take (i := 14) (oi := { dst := some 84, op := Op.indexAddr 49 (Operand.tmp 70) (Operand.tmp 71), type := 0, pos := "ref.go:212", after := #[{ on := 0, ground := Ground.data }, { on := 1, ground := Ground.data }, { on := 0, ground := Ground.phase }, { on := 1, ground := Ground.phase }, { on := 2, ground := Ground.textOnly Departure.lateStores }, { on := 3, ground := Ground.textOnly Departure.lateStores }, { on := 4, ground := Ground.textOnly Departure.lateStores }, { on := 5, ground := Ground.phase }, { on := 6, ground := Ground.phase }, { on := 7, ground := Ground.phase }, { on := 8, ground := Ground.phase }, { on := 9, ground := Ground.phase }, { on := 10, ground := Ground.textOnly Departure.lateStores }, { on := 11, ground := Ground.textOnly Departure.lateStores }, { on := 12, ground := Ground.textOnly Departure.lateStoresUnsure }, { on := 13, ground := Ground.phase }], guard := none }) (v := ?_) rfl (by kernel_rfl) (by kernel_rfl) (by kernel_rfl) (fun _ _ _ h => h) (Or.inl ⟨by rfl, ?_⟩) (by assumption) ?_
                      rotate_left
                      · intro w_ hSw
                        (try dsimp only at hSw)
                        go_simp
                        first | done | with_reducible rfl
                      try simp only [Act.put, List.setIfInBounds_toArray, List.set_cons_zero, List.set_cons_succ]
                      refine wpAnyH_ready (rs := [15]) (by kernel_rfl) (by simp) ?_
                      refine AllReadyH.cons (o := { dst := none, op := Op.store 9 (Operand.tmp 84) (Operand.tmp 79), type := 0, pos := "ref.go:212", after := #[{ on := 14, ground := Ground.data }, { on := 9, ground := Ground.data }, { on := 0, ground := Ground.phase }, { on := 1, ground := Ground.phase }, { on := 2, ground := Ground.textOnly Departure.lateStores }, { on := 3, ground := Ground.textOnly Departure.lateStores }, { on := 4, ground := Ground.textOnly Departure.lateStores }, { on := 5, ground := Ground.phase }, { on := 6, ground := Ground.phase }, { on := 7, ground := Ground.phase }, { on := 8, ground := Ground.phase }, { on := 9, ground := Ground.phase }, { on := 10, ground := Ground.textOnly Departure.lateStores }, { on := 11, ground := Ground.textOnly Departure.lateStores }, { on := 12, ground := Ground.textOnly Departure.lateStoresUnsure }, { on := 13, ground := Ground.phase }], guard := none }) rfl (fun K hK => ?_) (AllReadyH.nil)
                      go_simp
                      skip
                      refine hK.out _ _ ?_ (fun hHeld => ?_)
                      · exact trivial
                      clear hK K
                      try simp only [Act.put, List.setIfInBounds_toArray, List.set_cons_zero, List.set_cons_succ]
                      refine wpAnyH_take (i := 16) (oi := { dst := some 85, op := Op.indexAddr 49 (Operand.tmp 72) (Operand.tmp 74), type := 0, pos := "ref.go:212", after := #[{ on := 2, ground := Ground.data }, { on := 4, ground := Ground.data }, { on := 0, ground := Ground.phase }, { on := 1, ground := Ground.phase }, { on := 2, ground := Ground.phase }, { on := 3, ground := Ground.phase }, { on := 4, ground := Ground.phase }, { on := 5, ground := Ground.phase }, { on := 6, ground := Ground.phase }, { on := 7, ground := Ground.phase }, { on := 8, ground := Ground.phase }, { on := 9, ground := Ground.phase }, { on := 10, ground := Ground.phase }, { on := 11, ground := Ground.phase }, { on := 12, ground := Ground.phase }, { on := 13, ground := Ground.phase }, { on := 14, ground := Ground.phase }, { on := 15, ground := Ground.phase }], guard := none }) (v := ?_) rfl (by kernel_rfl) (by kernel_rfl) (by kernel_rfl) (fun _ _ _ h => h) (Or.inl ⟨by rfl, ?_⟩) (by assumption) ?_
                      rotate_left
                      · intro w_ hSw
                        (try dsimp only at hSw)
                        go_simp
                        first | done | with_reducible rfl
                      try simp only [Act.put, List.setIfInBounds_toArray, List.set_cons_zero, List.set_cons_succ]
                      refine wpAnyH_ready (rs := [17]) (by kernel_rfl) (by simp) ?_
                      refine AllReadyH.cons (o := { dst := none, op := Op.store 9 (Operand.tmp 85) (Operand.tmp 83), type := 0, pos := "ref.go:212", after := #[{ on := 16, ground := Ground.data }, { on := 13, ground := Ground.data }, { on := 15, ground := Ground.chain }, { on := 0, ground := Ground.phase }, { on := 1, ground := Ground.phase }, { on := 2, ground := Ground.phase }, { on := 3, ground := Ground.phase }, { on := 4, ground := Ground.phase }, { on := 5, ground := Ground.phase }, { on := 6, ground := Ground.phase }, { on := 7, ground := Ground.phase }, { on := 8, ground := Ground.phase }, { on := 9, ground := Ground.phase }, { on := 10, ground := Ground.phase }, { on := 11, ground := Ground.phase }, { on := 12, ground := Ground.phase }, { on := 13, ground := Ground.phase }, { on := 14, ground := Ground.phase }, { on := 15, ground := Ground.phase }], guard := none }) rfl (fun K hK => ?_) (AllReadyH.nil)
                      go_simp
                      skip
                      refine hK.out _ _ ?_ (fun hHeld => ?_)
                      · exact trivial
                      clear hK K
                      try simp only [Act.put, List.setIfInBounds_toArray, List.set_cons_zero, List.set_cons_succ]
                      refine wpAnyH_done (by kernel_rfl) ?_ _
                      go_wp2
                      go_roundw
                      case rel => exact ⟨p, by go_num, by omega, HGT, Lib.hid (by rw [← HS.out]; repeat (first | exact ownv_set (ownv_set O20.out (p + 1) acc[p]) p l[k].v | exact ownv_set (ownv_set (GR.Own.drew O20.out) (p + 1) acc[p]) p l[k].v | refine GR.Own.drewN ?_ _ | refine GR.Own.drew ?_)), Lib.hid (by repeat (first | exact B20.out | refine bl_drewN ?_ _ | refine bl_drew ?_ | refine Below.setCell ?_ hg3 _))⟩
                      case measure => simp [intOf]
                    · skip
                      go_simp
                      skip
                      refine hK.out _ _ ?_ (fun hHeld => ?_)
                      · exact trivial
                      clear hK K
                      try simp only [Act.put, List.setIfInBounds_toArray, List.set_cons_zero, List.set_cons_succ]
                      refine wpAnyH_ready (rs := [9]) (by kernel_rfl) (by simp) ?_
                      refine AllReadyH.cons (o := { dst := some 79, op := Op.load 9 (Operand.tmp 78), type := 9, pos := "ref.go:212", after := #[{ on := 8, ground := Ground.data }], guard := none }) rfl (fun K hK => ?_) (AllReadyH.nil)
                      go_simp
                      skip
                      refine hK.out _ _ ?_ (fun hHeld => ?_)
                      · exact trivial
                      clear hK K
                      try simp only [Act.put, List.setIfInBounds_toArray, List.set_cons_zero, List.set_cons_succ]
                      refine wpAnyH_take (i := 14) (oi := { dst := some 84, op := Op.indexAddr 49 (Operand.tmp 70) (Operand.tmp 71), type := 0, pos := "ref.go:212", after := #[{ on := 0, ground := Ground.data }, { on := 1, ground := Ground.data }, { on := 0, ground := Ground.phase }, { on := 1, ground := Ground.phase }, { on := 2, ground := Ground.textOnly Departure.lateStores }, { on := 3, ground := Ground.textOnly Departure.lateStores }, { on := 4, ground := Ground.textOnly Departure.lateStores }, { on := 5, ground := Ground.phase }, { on := 6, ground := Ground.phase }, { on := 7, ground := Ground.phase }, { on := 8, ground := Ground.phase }, { on := 9, ground := Ground.phase }, { on := 10, ground := Ground.textOnly Departure.lateStores }, { on := 11, ground := Ground.textOnly Departure.lateStores }, { on := 12, ground := Ground.textOnly Departure.lateStoresUnsure }, { on := 13, ground := Ground.phase }], guard := none }) (v := ?_) rfl (by kernel_rfl) (by kernel_rfl) (by kernel_rfl) (fun _ _ _ h => h) (Or.inl ⟨by rfl, ?_⟩) (by assumption) ?_
                      rotate_left
                      · intro w_ hSw
                        (try dsimp only at hSw)
                        go_simp
                        first | done | with_reducible rfl
                      try simp only [Act.put, List.setIfInBounds_toArray, List.set_cons_zero, List.set_cons_succ]
                      refine wpAnyH_ready (rs := [15]) (by kernel_rfl) (by simp) ?_
                      refine AllReadyH.cons (o := { dst := none, op := Op.store 9 (Operand.tmp 84) (Operand.tmp 79), type := 0, pos := "ref.go:212", after := #[{ on := 14, ground := Ground.data }, { on := 9, ground := Ground.data }, { on := 0, ground := Ground.phase }, { on := 1, ground := Ground.phase }, { on := 2, ground := Ground.textOnly Departure.lateStores }, { on := 3, ground := Ground.textOnly Departure.lateStores }, { on := 4, ground := Ground.textOnly Departure.lateStores }, { on := 5, ground := Ground.phase }, { on := 6, ground := Ground.phase }, { on := 7, ground := Ground.phase }, { on := 8, ground := Ground.phase }, { on := 9, ground := Ground.phase }, { on := 10, ground := Ground.textOnly Departure.lateStores }, { on := 11, ground := Ground.textOnly Departure.lateStores }, { on := 12, ground := Ground.textOnly Departure.lateStoresUnsure }, { on := 13, ground := Ground.phase }], guard := none }) rfl (fun K hK => ?_) (AllReadyH.nil)
                      go_simp
                      skip
                      refine hK.out _ _ ?_ (fun hHeld => ?_)
                      · exact trivial
                      clear hK K
                      try simp only [Act.put, List.setIfInBounds_toArray, List.set_cons_zero, List.set_cons_succ]
                      refine wpAnyH_take (i := 16) (oi := { dst := some 85, op := Op.indexAddr 49 (Operand.tmp 72) (Operand.tmp 74), type := 0, pos := "ref.go:212", after := #[{ on := 2, ground := Ground.data }, { on := 4, ground := Ground.data }, { on := 0, ground := Ground.phase }, { on := 1, ground := Ground.phase }, { on := 2, ground := Ground.phase }, { on := 3, ground := Ground.phase }, { on := 4, ground := Ground.phase }, { on := 5, ground := Ground.phase }, { on := 6, ground := Ground.phase }, { on := 7, ground := Ground.phase }, { on := 8, ground := Ground.phase }, { on := 9, ground := Ground.phase }, { on := 10, ground := Ground.phase }, { on := 11, ground := Ground.phase }, { on := 12, ground := Ground.phase }, { on := 13, ground := Ground.phase }, { on := 14, ground := Ground.phase }, { on := 15, ground := Ground.phase }], guard := none }) (v := ?_) rfl (by kernel_rfl) (by kernel_rfl) (by kernel_rfl) (fun _ _ _ h => h) (Or.inl ⟨by rfl, ?_⟩) (by assumption) ?_
                      rotate_left
                      · intro w_ hSw
                        (try dsimp only at hSw)
                        go_simp
                        first | done | with_reducible rfl
                      try simp only [Act.put, List.setIfInBounds_toArray, List.set_cons_zero, List.set_cons_succ]
                      refine wpAnyH_ready (rs := [17]) (by kernel_rfl) (by simp) ?_
                      refine AllReadyH.cons (o := { dst := none, op := Op.store 9 (Operand.tmp 85) (Operand.tmp 83), type := 0, pos := "ref.go:212", after := #[{ on := 16, ground := Ground.data }, { on := 13, ground := Ground.data }, { on := 15, ground := Ground.chain }, { on := 0, ground := Ground.phase }, { on := 1, ground := Ground.phase }, { on := 2, ground := Ground.phase }, { on := 3, ground := Ground.phase }, { on := 4, ground := Ground.phase }, { on := 5, ground := Ground.phase }, { on := 6, ground := Ground.phase }, { on := 7, ground := Ground.phase }, { on := 8, ground := Ground.phase }, { on := 9, ground := Ground.phase }, { on := 10, ground := Ground.phase }, { on := 11, ground := Ground.phase }, { on := 12, ground := Ground.phase }, { on := 13, ground := Ground.phase }, { on := 14, ground := Ground.phase }, { on := 15, ground := Ground.phase }], guard := none }) rfl (fun K hK => ?_) (AllReadyH.nil)
                      go_simp
                      skip
                      refine hK.out _ _ ?_ (fun hHeld => ?_)
                      · exact trivial
                      clear hK K
                      try simp only [Act.put, List.setIfInBounds_toArray, List.set_cons_zero, List.set_cons_succ]
                      refine wpAnyH_done (by kernel_rfl) ?_ _
                      go_wp2
                      go_roundw
                      case rel => exact ⟨p, by go_num, by omega, HGT, Lib.hid (by rw [← HS.out]; repeat (first | exact ownv_set (ownv_set O20.out (p + 1) acc[p]) p l[k].v | exact ownv_set (ownv_set (GR.Own.drew O20.out) (p + 1) acc[p]) p l[k].v | refine GR.Own.drewN ?_ _ | refine GR.Own.drew ?_)), Lib.hid (by repeat (first | exact B20.out | refine bl_drewN ?_ _ | refine bl_drew ?_ | refine Below.setCell ?_ hg3 _))⟩
                      case measure => simp [intOf]
            · have HS := Lib.hid (addV_skip hbb.out.symm)
              go_wp2
              go_roundw
              case rel => exact ⟨k + 1, _, acc, rfl, by go_num, by omega, Lib.hid (by rw [HF.out, ← hacc.out, HS.out]), O3, B3⟩
              case measure => simp [intOf]; omega
      · obtain rfl : k = l.length := by omega
        have HK : Hid (acc = valsS l) := Lib.hid (by rw [hacc.out, List.take_length]; rfl)
        go_wp2
        go_ret
        exact ⟨_, rfl, by rw [HV.out, ← HK.out]; exact ho.out.base (by omega), bl_then B2.out hb.out⟩
end Go.Proofs.Ytlmnmlehnigfdaa
