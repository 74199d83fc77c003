/- DERIVED. The statements' own helpers: Same, mark, lent, kept. -/
import Derived.Test.YtejodabmddcanaaSegMem
import Derived.Test.YtejodabmddcanaaWEqStruct
import Derived.Laws.Runes
namespace Go.Proofs.Ytejodabmddcanaa
open Go.RowKit Go.Proofs.YtejodabmddcanaaW.PrintWords

theorem eq53 (d : Nat) (w : World) (x0 y0 : ByteArray) (x1 y1 : ByteArray) :
    (Op.equalIn (d + 2) 53 (.agg #[.string x0, .string x1]) (.agg #[.string y0, .string y1])).run Try.prog w = .ok (x0.toList == y0.toList && (x1.toList == y1.toList)) w := by
  refine eqA_of Try.underlying53 (by kernel_rfl) ?_
  refine eqf_cons (by rfl) (by go_simp; rfl) (by go_simp; rfl) (by go_simp) ?_
  exact eqf_last (by rfl) (by go_simp; rfl) (by go_simp; rfl) (by go_simp)
attribute [local go_sem high] eq53

theorem str_eq {a b : ByteArray} : (a.toList == b.toList) = decide (a = b) := by
  rw [Bool.eq_iff_iff]
  simp only [beq_iff_eq, decide_eq_true_eq, ByteArray.toList_eq]
  exact ⟨fun h => by obtain ⟨⟨a⟩⟩ := a; obtain ⟨⟨b⟩⟩ := b; simp only at h; rw [h], fun h => by rw [h]⟩


set_option maxRecDepth 100000 in
set_option maxHeartbeats 800000 in
theorem same_any (A B : Option Addr) (c d : Nat) (l m : List Ent) (w : World) (hl : Rd w A l) (hm : Rd w B m) :
    Calls Try.prog 27 #[.slice A l.length c, .slice B m.length d] w fun e w' => e = .returned (.bool (decide (l = m))) ∧ Drawn w w' := by
  have h1 := hl.max
  have h2 := hm.max
  have HL := Lib.hid hl
  have HM := Lib.hid hm
  clear hl hm
  by_cases hn : l.length = m.length
  · have b0 : (l.length != m.length) = false := by simp [hn]
    have b1 : ((l.length : Int) != (m.length : Int)) = false := by simp [hn]
    have HN := Lib.hid hn
    clear hn
    go_enter Try.func27, Try.ntmps27
    go_wp2
    go_loopw [5] (fun i w' => ∃ k : Nat, k ≤ l.length ∧ i = .int .i64 k ∧ Hid (l.take k = m.take k) ∧ Hid (Drawn w w')) (fun i _ => l.length - (intOf i).toNat)
    case atStart => exact ⟨0, Nat.zero_le _, rfl, Lib.hid (by simp), Lib.hid (Drawn.refl w)⟩
    case round =>
      obtain ⟨k, hk, rfl, hsame, hw⟩ := hrel
      have HL1 := Lib.hid (hw.out.rd HL.out)
      have HM1 := Lib.hid (hw.out.rd HM.out)
      clear HL HM
      by_cases hlt : k < l.length
      · have hlt2 : k < m.length := by have := HN.out; omega
        have i0 : (0 : Int) ≤ (k : Int) := by omega
        have i1 : (k : Int) < (l.length : Int) := by omega
        have i2 : (k : Int) < (m.length : Int) := by omega
        obtain ⟨ad, rfl, c0, c1⟩ := HL1.out.at_ k hlt
        obtain ⟨bd, rfl, d0, d1⟩ := HM1.out.at_ k hlt2
        by_cases hq : l[k] = m[k]
        · have q0 : (l[k].key.toList == m[k].key.toList) = true := by rw [str_eq, hq]; simp
          have q1 : (l[k].sum.toList == m[k].sum.toList) = true := by rw [str_eq, hq]; simp
          have HQ := Lib.hid hq
          clear hq
          go_wp2
          go_quiet (fail)
          go_wp2
          go_roundw
          case rel => exact ⟨k + 1, by omega, by go_num, Lib.hid (by rw [List.take_succ_eq_append_getElem hlt, List.take_succ_eq_append_getElem hlt2, hsame.out, HQ.out]), Lib.hid (hw.out.drewN _)⟩
          case measure => simp [intOf]; omega
        · have HV := Lib.hid (show decide (l = m) = false by simp; intro e; subst e; exact hq rfl)
          have hq2 : l[k].key ≠ m[k].key ∨ (l[k].key = m[k].key ∧ l[k].sum ≠ m[k].sum) := by
            by_cases h : l[k].key = m[k].key
            · refine .inr ⟨h, fun h' => hq ?_⟩
              cases h3 : l[k]; cases h4 : m[k]; simp only [h3, h4] at h h'; rw [h, h']
            · exact .inl h
          clear hq
          rcases hq2 with hq | ⟨hq, hq'⟩
          · have q0 : (l[k].key.toList == m[k].key.toList) = false := by rw [str_eq]; simpa using hq
            clear hq
            go_wp2
            go_quiet (fail)
            go_wp2
            go_ret
            exact ⟨ret_bool HV.out.symm, hw.out.drewN _⟩
          · have q0 : (l[k].key.toList == m[k].key.toList) = true := by rw [str_eq]; simpa using hq
            have q1 : (l[k].sum.toList == m[k].sum.toList) = false := by rw [str_eq]; simpa using hq'
            clear hq hq'
            go_wp2
            go_quiet (fail)
            go_wp2
            go_ret
            exact ⟨ret_bool HV.out.symm, hw.out.drewN _⟩
      · obtain rfl : k = l.length := by omega
        have HV := Lib.hid (show decide (l = m) = true by
          have := hsame.out
          rw [List.take_length, HN.out, List.take_length] at this
          simpa using this)
        go_wp2
        go_ret
        exact ⟨ret_bool HV.out.symm, hw.out⟩
  · have HV := Lib.hid (show decide (l = m) = false by simp; intro e; exact hn (by rw [e]))
    have b0 : (l.length != m.length) = true := by simpa using hn
    have b1 : ((l.length : Int) != (m.length : Int)) = true := by simp; omega
    clear hn
    go_enter Try.func27, Try.ntmps27
    go_wp2
    go_ret
    exact ⟨ret_bool HV.out.symm, Drawn.refl _⟩

/-- The k-th mark. -/
def markE (k : Nat) : Ent := ⟨⟨#[109, 97, 114, 107]⟩, Utf8.encode (97 + (k : Int))⟩
def marks (k : Nat) : List Ent := (List.range k).map markE
theorem marks_succ (k : Nat) : marks (k + 1) = marks k ++ [markE k] := by simp [marks, List.range_succ]
theorem marks_length (k : Nat) : (marks k).length = k := by simp [marks]

theorem mark_any (k : Nat) (hk : k < 70) (w : World) :
    Calls Try.prog 54 #[.int .i64 k] w fun e w' => e = .returned (.agg #[.string (markE k).key, .string (markE k).sum]) ∧ Below w.heap.size w w' := by
  have e1 : IntKind.i32.wrap (97 + (k : Int)) = 97 + (k : Int) := IntWalk.i32_in _ (by omega)
  go_enter Try.func54, Try.ntmps54
  go_wp2
  exact bodyPost_ret (v := .agg #[.string (markE k).key, .string (markE k).sum]) (by simp [results, Try.results54, go_sem, markE]) rfl ⟨rfl, (Below.refl _ _).alloc (Nat.le_refl _) _⟩
end Go.Proofs.Ytejodabmddcanaa
