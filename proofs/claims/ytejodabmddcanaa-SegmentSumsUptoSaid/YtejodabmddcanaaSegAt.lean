/- DERIVED. Where a key stands in a list of entries: the program's at, over the library's binary search. -/
import Derived.Test.YtejodabmddcanaaSegCmp
namespace Go.Proofs.Ytejodabmddcanaa
open Go.RowKit

theorem atCmp_any (a b key : ByteArray) (w : World) :
    Calls Try.prog 85 #[.agg #[.string a, .string b], .string key] w fun e w' => e = .returned (.int .i64 (cmpK a key)) ∧ Below w.heap.size w w' := by
  have HB := Lib.hid (Below.refl w.heap.size w)
  go_enter Try.func85, Try.ntmps85
  go_wp2_with (go_at_call 53; refine (compare_any _ _ _).mono ?_; rintro e w' ⟨rfl, rfl⟩)
  go_ret
  exact ⟨rfl, bl_alloc HB.out _⟩
theorem atCmp_is (a b key : ByteArray) (r : Int) (h : cmpK a key = r) (w : World) :
    Calls Try.prog 85 #[.agg #[.string a, .string b], .string key] w fun e w' => e = .returned (.int .i64 r) ∧ Below w.heap.size w w' := by
  subst h; exact atCmp_any a b key w

theorem ret_ib {a b : Int} {c d : Bool} (h : b = a) (k : d = c) : Ending.returned (.tuple #[.int .i64 a, .bool c]) = .returned (.tuple #[.int .i64 b, .bool d]) := by rw [h, k]

set_option maxRecDepth 100000 in
set_option maxHeartbeats 1600000 in
theorem search_any (A : Option Addr) (c : Nat) (l : List Ent) (key : ByteArray) (w : World) (hr : Rd w A l) (hs : Rises l) :
    Calls Try.prog 84 #[.slice A l.length c, .string key, .func (.func 85) #[] #[]] w
      fun e w' => e = .returned (.tuple #[.int .i64 (cut l key), .bool (there l key)]) ∧ Below w.heap.size w w' := by
  have hmax := hr.max
  have HR := Lib.hid hr
  have HS := Lib.hid hs
  clear hr hs
  go_enter Try.func84, Try.ntmps84
  go_wp2_with fail
  go_loopw [9, 10] (fun i j w' => ∃ a b : Nat, a ≤ b ∧ b ≤ l.length ∧ i = .int .i64 a ∧ j = .int .i64 b ∧
      Hid (∀ t (ht : t < l.length), t < a → ltK l[t].key key = true) ∧ Hid (∀ t (ht : t < l.length), b ≤ t → ltK l[t].key key = false) ∧ Hid (Below w.heap.size w w')) (fun i j _ => (intOf j).toNat - (intOf i).toNat)
  case atStart => exact ⟨0, l.length, by omega, by omega, rfl, rfl, Lib.hid (fun t _ h => absurd h (by omega)), Lib.hid (fun t h1 h2 => absurd h1 (by omega)), Lib.hid (Below.refl _ _)⟩
  case round =>
    obtain ⟨a, b, hab, hbl, rfl, rfl, hlo, hhi, hw⟩ := hrel
    have HR1 := Lib.hid (HR.out.below hw.out)
    clear HR
    have HR := HR1
    clear HR1
    by_cases hlt : a < b
    · have e1 : IntKind.u64.wrap ((a : Int) + (b : Int)) = (a : Int) + (b : Int) := IntWalk.u64_in _ (by omega)
      have e2 : IntKind.i64.wrap (((a : Int) + (b : Int)) / 2) = ((a : Int) + (b : Int)) / 2 := IntWalk.i64_in _ (by omega)
      have hm : (a + b) / 2 < l.length := by omega
      have i0 : (0 : Int) ≤ ((a : Int) + (b : Int)) / 2 := by omega
      have i1 : ((a : Int) + (b : Int)) / 2 < (l.length : Int) := by omega
      obtain ⟨ad, rfl, c0, c1⟩ := HR.out.at_ _ hm
      by_cases hc : ltK l[(a + b) / 2].key key = true
      · have HC := Lib.hid (cmpK_lt hc)
        have HL := Lib.hid hc
        clear hc
        go_wp2_with (go_at_call 85; refine (atCmp_is _ _ _ _ HC.out _).mono ?_; rintro e w1 ⟨rfl, hb1⟩; have HB := Lib.hid hb1; clear hb1)
        go_roundw
        case rel =>
          refine ⟨(a + b) / 2 + 1, b, by omega, hbl, by go_num, rfl, Lib.hid ?_, hhi, Lib.hid (bl_then hw.out HB.out)⟩
          intro t ht hta
          rcases Nat.lt_or_ge t ((a + b) / 2) with h | h
          · exact ltK_trans (HS.out t _ ht hm h) HL.out
          · obtain rfl : t = (a + b) / 2 := by omega
            exact HL.out
        case measure => simp [intOf]; omega
      · have hc' : ltK l[(a + b) / 2].key key = false := by simpa using hc
        clear hc
        have HL := Lib.hid hc'
        clear hc'
        have hhi2 : ∀ t (ht : t < l.length), (a + b) / 2 ≤ t → ltK l[t].key key = false := by
          intro t ht hta
          rcases Nat.lt_or_ge ((a + b) / 2) t with h | h
          · have h2 := HS.out _ t hm ht h
            rcases ltK_tri l[t].key key with ⟨h3, _⟩ | h3 | ⟨_, _, h3⟩
            · have := HL.out; rw [ltK_trans h2 h3] at this; cases this
            · rw [h3, ltK_irrefl]
            · exact h3
          · have h9 : t = (a + b) / 2 := by omega
            subst h9
            exact HL.out
        have HH := Lib.hid hhi2
        clear hhi2
        have hc2 : cmpK l[(a + b) / 2].key key = 0 ∨ cmpK l[(a + b) / 2].key key = 1 := by
          rcases ltK_tri l[(a + b) / 2].key key with ⟨h3, _⟩ | h3 | ⟨h3, _, _⟩
          · have := HL.out; rw [h3] at this; cases this
          · left; rw [h3, cmpK_self]
          · right; exact cmpK_gt h3
        rcases hc2 with hc2 | hc2
        all_goals
          have HC := Lib.hid hc2
          clear hc2
          go_wp2_with (go_at_call 85; refine (atCmp_is _ _ _ _ HC.out _).mono ?_; rintro e w1 ⟨rfl, hb1⟩; have HB := Lib.hid hb1; clear hb1)
          go_roundw
          case rel => exact ⟨a, (a + b) / 2, by omega, by omega, rfl, by go_num, hlo, HH, Lib.hid (bl_then hw.out HB.out)⟩
          case measure => simp [intOf]; omega
    · obtain rfl : a = b := by omega
      have HK := Lib.hid (cut_of hbl (key := key) (fun j hj hja => hlo.out j hj hja) (fun h => hhi.out a h (Nat.le_refl _)))
      by_cases hend : a < l.length
      · have i0 : (0 : Int) ≤ (a : Int) := by omega
        have i1 : (a : Int) < (l.length : Int) := by omega
        have d1 : decide (a < l.length) = true := by simpa using hend
        have d2 : decide ((a : Int) < (l.length : Int)) = true := by simpa using hend
        obtain ⟨ad, rfl, c0, c1⟩ := HR.out.at_ a hend
        by_cases hq : l[a].key = key
        · have HT := Lib.hid (show there l key = true by simp [there, HK.out, List.getElem?_eq_getElem hend, hq])
          have HC := Lib.hid (show cmpK l[a].key key = 0 by rw [hq, cmpK_self])
          clear hq
          go_wp2_with (go_at_call 85; refine (atCmp_is _ _ _ _ HC.out _).mono ?_; rintro e w1 ⟨rfl, hb1⟩; have HB := Lib.hid hb1; clear hb1)
          go_ret2
          exact ⟨ret_ib (by rw [HK.out]) HT.out, bl_then hw.out HB.out⟩
        · have HT := Lib.hid (show there l key = false by simp [there, HK.out, List.getElem?_eq_getElem hend, hq])
          have hc1 : cmpK l[a].key key = 1 := by
            rcases ltK_tri l[a].key key with ⟨h3, _⟩ | h3 | ⟨h3, _, _⟩
            · have := hhi.out a hend (Nat.le_refl _); rw [h3] at this; cases this
            · exact absurd h3 hq
            · exact cmpK_gt h3
          have HC := Lib.hid hc1
          clear hq hc1
          go_wp2_with (go_at_call 85; refine (atCmp_is _ _ _ _ HC.out _).mono ?_; rintro e w1 ⟨rfl, hb1⟩; have HB := Lib.hid hb1; clear hb1)
          go_ret2
          exact ⟨ret_ib (by rw [HK.out]) HT.out, bl_then hw.out HB.out⟩
      · have d1 : decide (a < l.length) = false := by simpa using hend
        have d2 : decide ((a : Int) < (l.length : Int)) = false := by simp; omega
        have HT := Lib.hid (show there l key = false by simp [there, HK.out, List.getElem?_eq_none (show l.length ≤ a by omega)])
        go_wp2
        go_ret2
        exact ⟨ret_ib (by rw [HK.out]) HT.out, hw.out⟩

theorem at_any (A : Option Addr) (c : Nat) (l : List Ent) (key : ByteArray) (w : World) (hr : Rd w A l) (hs : Rises l) :
    Calls Try.prog 56 #[.slice A l.length c, .string key] w fun e w' => e = .returned (.tuple #[.int .i64 (cut l key), .bool (there l key)]) ∧ Below w.heap.size w w' := by
  have HR := Lib.hid hr
  have HS := Lib.hid hs
  clear hr hs
  go_enter Try.func56, Try.ntmps56
  go_wp2_with (go_at_call 84; refine (search_any _ _ _ _ _ HR.out HS.out).mono ?_; rintro e w1 ⟨rfl, hb1⟩; have HB := Lib.hid hb1; clear hb1)
  go_ret2
  exact ⟨rfl, HB.out⟩
end Go.Proofs.Ytejodabmddcanaa
