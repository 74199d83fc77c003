/- DERIVED. SegmentSums: of two lists of entries of bulk at most 1048576, two numbers and a width: unlike lists or segments have unlike forms; the sum is the first bytes of the digest of the form, or the refusal; a key has a segment just where it is a key. (One text out of several: FrmRow, FrmSumsL.) -/
import Derived.Test.YtejodabmddcanaaSegRowU
import Derived.Test.YtejodabmddcanaaRows
import Derived.Test.YtejodabmddcanaaFrmQ
import Derived.WalkKit
import Derived.ProofKit
import Derived.OpenShut
import Derived.ShutString
import Derived.ChangeOld
import Derived.Below
import Derived.SizedLaws
import Derived.JoinedCond
import Derived.Deep.CondSized
import Derived.Lib.SmallJoins
namespace Go.Proofs.Ytejodabmddcanaa
open Go.RowKit Go.ChangeShapes Go.WideShapes Go.Deep

theorem bulk_mem {H : Type} {d : DataW H} : ∀ {l : List (DataW H)}, d ∈ l → Rows.uptoBulk d ≤ Rows.uptoBulkAll l
  | [], h => by cases h
  | x :: r, h => by
    simp only [Rows.uptoBulkAll]
    rcases List.mem_cons.1 h with rfl | h
    · omega
    · have := bulk_mem h; omega

set_option maxRecDepth 100000 in
theorem open_entsB {H : Type} {enc : TypeId × Value → H} {w : World} {base : Nat} {spare : Nat → Bool} {held : Bool} {r : Reach} {b0 : Nat} {t : TypeId} {v : Value} {d : DataW H} {ps : List MemPlace}
    (ht : Try.prog.underlying t = some (.slice 53)) (hv : Value.okWide Try.prog w r b0 t v) (h : DataW.Trod enc Try.prog w base spare held t v d ps) (hu : Rows.uptoBulk d ≤ 1048576) :
    ∃ (A : Option Addr) (c : Nat) (l : List Ent), v = .slice A l.length c ∧ Rd w A l ∧ l.length ≤ 1048576 ∧ ∀ e ∈ l, e.key.size ≤ 1048576 ∧ e.sum.size ≤ 1048576 := by
  obtain ⟨a, len, cap, rfl⟩ := okWide_slice ht hv
  obtain ⟨fuel, hf⟩ := h
  rcases open_slice_fields ht Try.underlying53 (by kernel_rfl) (by kernel_rfl) hf with ⟨hcs, _⟩ | ⟨a', len', cap', m, D, Pl, hcs, _, hl, hm, hmm, hx, hi⟩
  · simp [Value.cells] at hcs
    obtain ⟨rfl, rfl, rfl⟩ := hcs
    exact ⟨none, 0, [], rfl, Rd.nil _ _, Nat.zero_le _, fun _ h => by cases h⟩
  · simp [Value.cells] at hcs
    obtain ⟨rfl, rfl, rfl⟩ := hcs
    obtain ⟨rfl, _⟩ := Prod.mk.inj hx
    have hlm : len ≤ m := by rw [hmm]; split <;> omega
    have h1 := bulk_length ((List.range len).map D)
    rw [List.length_map, List.length_range] at h1
    simp only [Rows.uptoBulk] at hu
    have hlen : len ≤ 1048576 := by omega
    have hone : ∀ i, i < len → ∃ e : Ent, (w.cell? (a'.add (i * 2)) = some (.string e.key) ∧ w.cell? ⟨(a'.add (i * 2)).block, (a'.add (i * 2)).off + 1, none⟩ = some (.string e.sum)) ∧ e.key.size ≤ 1048576 ∧ e.sum.size ≤ 1048576 := by
      intro i hil
      obtain ⟨ys, n, hD, _, _, hf2⟩ := hi i (by omega)
      obtain ⟨v0, y0, hc0, hy0, ht0⟩ := hf2 0 _ rfl
      obtain ⟨v1, y1, hc1, hy1, ht1⟩ := hf2 1 _ rfl
      obtain ⟨s0, e0, x0, _⟩ := DataW.trod_string Try.underlying9 ht0
      obtain ⟨s1, e1, x1, _⟩ := DataW.trod_string Try.underlying9 ht1
      simp only [List.cons.injEq, and_true] at e0 e1
      subst e0 e1
      have hDb : Rows.uptoBulk (D i) ≤ 1048576 := by
        have := bulk_mem (List.mem_map_of_mem (f := D) (List.mem_range.2 hil))
        omega
      rw [hD] at hDb
      simp only [Rows.uptoBulk] at hDb
      have m0 := bulk_mem (List.mem_map_of_mem (f := (·.1)) (List.mem_of_getElem? hy0))
      have m1 := bulk_mem (List.mem_map_of_mem (f := (·.1)) (List.mem_of_getElem? hy1))
      rw [x0] at m0
      rw [x1] at m1
      simp only [Rows.uptoBulk] at m0 m1
      have z0 : s0.data.toList.length = s0.size := rfl
      have z1 : s1.data.toList.length = s1.size := rfl
      refine ⟨⟨s0, s1⟩, ⟨?_, ?_⟩, by show s0.size ≤ _; omega, by show s1.size ≤ _; omega⟩
      · simpa using hc0
      · rw [← add_half]; simpa using hc1
    have hall : ∀ n, n ≤ len → ∃ l : List Ent, l.length = n ∧ ∀ i e, l[i]? = some e → (w.cell? (a'.add (i * 2)) = some (.string e.key) ∧ w.cell? ⟨(a'.add (i * 2)).block, (a'.add (i * 2)).off + 1, none⟩ = some (.string e.sum)) ∧ e.key.size ≤ 1048576 ∧ e.sum.size ≤ 1048576 := by
      intro n
      induction n with
      | zero => exact fun _ => ⟨[], rfl, fun i e he => by simp at he⟩
      | succ n ih =>
        intro hn
        obtain ⟨l, hl1, hl2⟩ := ih (by omega)
        obtain ⟨e, he⟩ := hone n (by omega)
        refine ⟨l ++ [e], by simp [hl1], fun i x hx => ?_⟩
        rcases Nat.lt_or_ge i l.length with h1 | h1
        · rw [List.getElem?_append_left h1] at hx
          exact hl2 i x hx
        · rw [List.getElem?_append_right h1] at hx
          have h0 : i - l.length = 0 := by
            rcases Nat.eq_zero_or_pos (i - l.length) with h | h
            · exact h
            · rw [List.getElem?_eq_none (by simp; omega)] at hx; cases hx
          rw [h0] at hx
          cases hx
          obtain rfl : i = n := by omega
          exact he
    obtain ⟨l, hl1, hl2⟩ := hall len (Nat.le_refl _)
    subst hl1
    refine ⟨some a', _, l, rfl, ⟨by omega, fun _ => ⟨a', rfl, fun i e he => (hl2 i e he).1⟩⟩, hlen, fun e he => ?_⟩
    obtain ⟨i, hi⟩ := List.getElem?_of_mem he
    exact (hl2 i e hi).2
end Go.Proofs.Ytejodabmddcanaa

namespace Go.Proofs.Ytejodabmddcanaa.segmentSums
open Go.ChangeShapes Go.WideShapes Go.ChangeAt Go.RowKit Go.Joins
open Go.ChangeMaps (open_string shut_string)
set_option linter.unusedVariables false

theorem own : ownKnob Try.prog.godebug = none := by kernel_rfl
theorem laidOut : laidOutB Try.prog = true := by kernel_rfl

set_option maxRecDepth 100000 in
theorem lifted (os : Os) (started : os.Started) (H : Type) (enc : TypeId × Value → H) (F : Stop.Interp) :
    ReturnsInHanded {} Try.checked os 12 .any ((Rows.OpenSpec.upto Rows.segmentSumsSpec).pre6 enc Try.prog Try.f12 Rows.segmentSumsUptoRow.domain false) (((Rows.OpenSpec.upto Rows.segmentSumsSpec).at F).post enc Try.prog Try.f12 false true false false) := by
  refine returnsInHanded_of_cond_sized (C := Try.checked) (s := Rows.OpenSpec.upto Rows.segmentSumsSpec) (k := Rows.uptoSmall) rfl own started (by kernel_rfl) Try.func12
    (OpenSpec.witness (enc := enc) (C := Try.checked) (s := Rows.OpenSpec.upto Rows.segmentSumsSpec) (k := Rows.uptoSmall) rfl false ⟨#[], #[.int .i64 0, .int .i64 0, .slice none 0 0, .slice none 0 0, .int .i64 0], []⟩ 8 (by kernel_rfl) (by kernel_rfl) (by kernel_rfl) (x := ([.lit (.int .i64 0), .lit (.int .i64 0), .nil, .nil, .lit (.int .i64 0)], [], [])) (by kernel_rfl) rfl (by kernel_rfl)) ?_
  intro W base args ds gs before hval0 hW hcnd hk hsz0 _
  show Calls _ _ args W fun e W' => ∃ v, e = .returned v ∧ Rows.segmentSumsSpec.post enc Try.prog Try.f12 false true false false W args v W'
  have hsz : (DataW.weightsEach Try.prog (Try.f12.params.toList ++ Rows.segmentSumsSpec.plain.varTypes Try.prog) (ds ++ gs)).all (· ≤ reachBytes) = true := hsz0
  have hval : ∀ (j : Nat) t v, Try.f12.params[j]? = some t → args[j]? = some v → Value.okWide Try.prog W .any base t v := hval0
  have hW' := hW
  obtain ⟨p, q, hA0, hV, rfl, hfz, hnd⟩ := hW
  have hA : DataW.TrodAll enc Try.prog W 0 (fun _ => true) true Try.f12.params.toList args.toList ds p := hA0
  rw [Try.params12] at hA hval hsz
  obtain ⟨v0, vs0, d0, ds0, p0, q0, hargs, rfl, rfl, h0, r0⟩ := trodAll_cons hA
  obtain ⟨v1, vs1, d1, ds1, p1, q1, rfl, rfl, rfl, h1, r1⟩ := trodAll_cons r0
  obtain ⟨v2, vs2, d2, ds2, p2, q2, rfl, rfl, rfl, h2, r2⟩ := trodAll_cons r1
  obtain ⟨v3, vs3, d3, ds3, p3, q3, rfl, rfl, rfl, h3, r3⟩ := trodAll_cons r2
  obtain ⟨v4, vs4, d4, ds4, p4, q4, rfl, rfl, rfl, h4, r4⟩ := trodAll_cons r3
  obtain ⟨rfl, rfl, rfl⟩ := trodAll_nil r4
  obtain rfl : args = #[v0, v1, v2, v3, v4] := by cases args; simp_all
  obtain ⟨rfl, rfl⟩ := trodVars_none hV
  obtain ⟨a0, rfl, rfl, rfl, y0⟩ := open_int Try.underlying3 (hval 0 3 v0 rfl rfl) h0
  obtain ⟨a1, rfl, rfl, rfl, y1⟩ := open_int Try.underlying3 (hval 1 3 v1 rfl rfl) h1
  have k2 := h2
  have lt2 : ∀ x ∈ p2, x.block < W.heap.size := by obtain ⟨m, hm⟩ := k2; exact DataW.trod_lt m _ _ _ hm
  obtain ⟨A2, c2, l2, rfl, hr2, u2, s2⟩ := open_entsB Try.underlying37 (hval 2 37 v2 rfl rfl) h2 (by have hbk : Rows.uptoBulkAll _ ≤ 1048576 := of_decide_eq_true hk; simp only [List.append_nil, Rows.uptoBulkAll] at hbk; omega)
  have k3 := h3
  have lt3 : ∀ x ∈ p3, x.block < W.heap.size := by obtain ⟨m, hm⟩ := k3; exact DataW.trod_lt m _ _ _ hm
  obtain ⟨A3, c3, l3, rfl, hr3, u3, s3⟩ := open_entsB Try.underlying37 (hval 3 37 v3 rfl rfl) h3 (by have hbk : Rows.uptoBulkAll _ ≤ 1048576 := of_decide_eq_true hk; simp only [List.append_nil, Rows.uptoBulkAll] at hbk; omega)
  obtain ⟨a4, rfl, rfl, rfl, y4⟩ := open_int Try.underlying3 (hval 4 3 v4 rfl rfl) h4
  clear hA0 hval0 hsz0 hsz hk
  refine (sums_walk A2 A3 c2 c3 a0 a1 a4 l2 l3 W hr2 hr3 u2 u3).mono fun e W' ⟨he, bel⟩ => ?_
  subst he
  exact ⟨_, rfl, _, _, _, [], _, [], hW', trodAll_mk1 (shut_bool Try.underlying4 _), (trodAll_cons_mk (shut_int Try.underlying3 y0) (trodAll_cons_mk (shut_int Try.underlying3 y1) (trodAll_cons_mk (Below.trod laidOut (by kernel_rfl) (of_decide_eq_true (by kernel_rfl)) k2 bel lt2) (trodAll_cons_mk (Below.trod laidOut (by kernel_rfl) (of_decide_eq_true (by kernel_rfl)) k3 bel lt3) (trodAll_cons_mk (shut_int Try.underlying3 y4) trodAll_mk0))))), rfl, bel.frame _, fun h => by cases h⟩

theorem over : Rows.segmentSumsUptoRow.holds Try.pinned (Rows.OpenSpec.upto Rows.segmentSumsSpec) :=
  OpenClaim.holds_of_cond 12 Try.f12 rfl rfl rfl rfl rfl rfl rfl ⟨rfl, rfl, rfl, rfl, rfl⟩ rfl rfl rfl rfl rfl (by kernel_rfl) Try.func12 (by kernel_rfl)
    (of_decide_eq_true (by kernel_rfl)) (by unfold Func.isWrapper; first | (rw [if_pos (by decide +kernel)]; kernel_rfl) | (rw [if_neg (by decide +kernel)]; exact ⟨rfl, rfl⟩))
    (fun os started H enc _ F => lifted os started H enc F)

theorem proved : Rows.SegmentSumsUptoSaid := over
#print axioms proved
end Go.Proofs.Ytejodabmddcanaa.segmentSums
namespace Go.Proofs.Ytejodabmddcanaa
theorem segmentSumsUpto_holds : Rows.SegmentSumsUptoSaid := segmentSums.proved
end Go.Proofs.Ytejodabmddcanaa
