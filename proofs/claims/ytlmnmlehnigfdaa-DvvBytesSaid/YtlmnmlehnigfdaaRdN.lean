/- DERIVED. The document's number to the base 128, its text, its end. -/
import Derived.Test.YtlmnmlehnigfdaaRdD
namespace Go.Proofs.Ytlmnmlehnigfdaa
open Go.RowKit Go.Lib
set_option linter.unusedVariables false
set_option linter.unusedSimpArgs false

set_option maxRecDepth 100000 in
set_option maxHeartbeats 6400000 in
theorem number_any (D : ByteArray) (most : Nat) (w : World) (hD : D.size ≤ 10) (hmo : most < 18446744073709551616) :
    Calls Try.prog 101 #[.string D, .int .u64 most] w fun e w' => e = .returned (.tuple #[.int .u64 (numP most D.data.toList).2, .int .i64 (numP most D.data.toList).1]) ∧ w = w' := by
  have hlen : D.data.toList.length = D.size := rfl
  by_cases h0 : D.size = 0
  · have HP : Hid (numP most D.data.toList = (10, 0)) := Lib.hid (by rw [numP, if_pos ⟨by omega, .inl (by omega)⟩])
    clear hlen
    go_enter Try.func101, Try.ntmps101
    go_wp2
    go_ret2
    rw [HP.out]
    exact ⟨rfl, rfl⟩
  · obtain ⟨m, hsz⟩ : ∃ m, D.size = m + 1 := ⟨D.size - 1, by omega⟩
    clear h0
    obtain ⟨c, hc⟩ : ∃ c : UInt8, c = D.data.toList[m]'(by show m < D.size; rw [hsz]; exact Nat.lt_succ_self m) := ⟨_, rfl⟩
    have hlast : lastN D.data.toList = c.toNat := by
      rw [lastN_getD, hlen, hsz, hc, List.getD_eq_getElem?_getD, show m + 1 - 1 = m by omega, List.getElem?_eq_getElem (by show m < D.size; rw [hsz]; exact Nat.lt_succ_self m)]
      rfl
    have hx : D[m]'(by rw [hsz]; exact Nat.lt_succ_self m) = c := hc.symm
    have h256 := c.toNat_lt
    have l1 : IntKind.i64.wrap ((m : Int) + 1 - 1) = (m : Int) := by rw [IntWalk.i64_in _ (by omega)]; omega
    have l2 : (0 : Int) ≤ (m : Int) := by omega
    have l3 : (m : Int) < (m : Int) + 1 := by omega
    have hn : numP most D.data.toList = (if m + 1 < 10 ∧ (m + 1 = 0 ∨ 128 ≤ c.toNat) then (10, 0) else if (m + 1 = 10 ∧ 1 < c.toNat) ∨ (1 < m + 1 ∧ c.toNat = 0) then (11, 0) else if most < dnum D.data.toList then (11, 0) else (0, dnum D.data.toList)) := by
      rw [numP, hlast, hlen, hsz]
    have h64 : (m + 1 = 10 → c.toNat ≤ 1) → dnum D.data.toList < 18446744073709551616 := fun h => dnum_64 (by omega) (fun e => by rw [hlast]; exact h (by omega))
    clear hc hlast hlen
    by_cases hm9 : m < 9
    · have b1 : decide ((m : Int) + 1 < 10) = true := by first | (simp; done) | (simp; omega) | omega
      have b2 : decide (m + 1 < 10) = true := by first | (simp; done) | (simp; omega) | omega
      have b3 : decide (m < 9) = true := by first | (simp; done) | (simp; omega) | omega
      have b4 : decide ((m : Int) < 9) = true := by first | (simp; done) | (simp; omega) | omega
      have b5 : decide ((m : Int) + 1 = 10) = false := by first | (simp; done) | (simp; omega) | omega
      have b6 : ((m : Int) + 1 == 10) = false := by first | (simp; done) | (simp; omega) | omega
      have b7 : decide (m = 9) = false := by first | (simp; done) | (simp; omega) | omega
      have b8 : (m == 9) = false := by first | (simp; done) | (simp; omega) | omega
      have b9 : decide (m + 1 = 10) = false := by first | (simp; done) | (simp; omega) | omega
      have b10 : decide ((m : Int) + 1 = 0) = false := by first | (simp; done) | (simp; omega) | omega
      have b11 : ((m : Int) + 1 == 0) = false := by first | (simp; done) | (simp; omega) | omega
      by_cases h128 : 128 ≤ c.toNat
      · have b12 : decide ((128 : Int) ≤ (c.toNat : Int)) = true := by first | (simp; done) | (simp; omega) | omega
        have b13 : decide (128 ≤ c.toNat) = true := by first | (simp; done) | (simp; omega) | omega
        have HP : Hid (numP most D.data.toList = (10, 0)) := Lib.hid (by rw [hn, if_pos ⟨by omega, .inr h128⟩])
        clear hn h64
        try clear hm
        go_enter Try.func101, Try.ntmps101
        go_wp2
        go_ret2
        rw [HP.out]
        exact ⟨rfl, rfl⟩
      · have b14 : decide ((128 : Int) ≤ (c.toNat : Int)) = false := by first | (simp; done) | (simp; omega) | omega
        have b15 : decide (128 ≤ c.toNat) = false := by first | (simp; done) | (simp; omega) | omega
        by_cases hc0 : c.toNat = 0
        · have b16 : decide ((c.toNat : Int) = 0) = true := by first | (simp; done) | (simp; omega) | omega
          have b17 : decide (c.toNat = 0) = true := by first | (simp; done) | (simp; omega) | omega
          have b18 : ((c.toNat : Int) == 0) = true := by first | (simp; done) | (simp; omega) | omega
          have b19 : (c.toNat == 0) = true := by first | (simp; done) | (simp; omega) | omega
          by_cases hm0 : 0 < m
          · have b20 : decide ((1 : Int) < (m : Int) + 1) = true := by first | (simp; done) | (simp; omega) | omega
            have b21 : decide (0 < m) = true := by first | (simp; done) | (simp; omega) | omega
            have b22 : decide ((0 : Int) < (m : Int)) = true := by first | (simp; done) | (simp; omega) | omega
            have HP : Hid (numP most D.data.toList = (11, 0)) := Lib.hid (by rw [hn, if_neg (by omega), if_pos (.inr ⟨by omega, hc0⟩)])
            clear hn h64 hc0
            try clear hm
            go_enter Try.func101, Try.ntmps101
            go_wp2
            go_ret2
            rw [HP.out]
            exact ⟨rfl, rfl⟩
          · have b23 : decide ((1 : Int) < (m : Int) + 1) = false := by first | (simp; done) | (simp; omega) | omega
            have b24 : decide (0 < m) = false := by first | (simp; done) | (simp; omega) | omega
            have b25 : decide ((0 : Int) < (m : Int)) = false := by first | (simp; done) | (simp; omega) | omega
            have HNUM := Lib.hid (show numP most D.data.toList = (if most < dnum D.data.toList then (11, 0) else (0, dnum D.data.toList)) by rw [hn, if_neg (by omega), if_neg (by omega)])
            replace h64 := h64 (by omega)
            clear hn
            try clear hc0
            try clear hm
            go_enter Try.func101, Try.ntmps101
            have HS64 := Lib.hid h64
            clear h64
            go_wp2
            go_loopw [7, 8] (fun vv ii w' => ∃ j : Nat, j ≤ m + 1 ∧ ii = .int .i64 ((j : Int) - 1) ∧ vv = .int .u64 (dnum (D.data.toList.drop j)) ∧ w' = w) (fun _ ii _ => (intOf ii + 1).toNat)
            case atStart => exact ⟨m + 1, by omega, by first | rfl | go_num | (congr 1; omega), by rw [List.drop_eq_nil_of_le (by show D.size ≤ _; omega)]; rfl, by first | rfl | trivial⟩
            case round =>
              obtain ⟨j, hj, rfl, rfl, rfl⟩ := hrel
              by_cases h0 : 0 < j
              · obtain ⟨i, rfl⟩ : ∃ i, j = i + 1 := ⟨j - 1, by omega⟩
                have l1 : ((i + 1 : Nat) : Int) - 1 = (i : Int) := by omega
                rw [l1]
                have hi : i < D.data.toList.length := by show i < D.size; omega
                have hdr := dnum_drop hi
                have hle := dnum_le D.data.toList i
                obtain ⟨x, hx⟩ : ∃ x : UInt8, x = D.data.toList[i] := ⟨_, rfl⟩
                have hx2 : D[i]'(by omega) = x := hx.symm
                rw [← hx] at hdr
                have h256 := x.toNat_lt
                obtain ⟨V, hV⟩ : ∃ V, V = dnum (D.data.toList.drop (i + 1)) := ⟨_, rfl⟩
                obtain ⟨V2, hV2⟩ : ∃ V2, V2 = dnum (D.data.toList.drop i) := ⟨_, rfl⟩
                have hs64 := HS64.out
                rw [← hV, ← hV2] at hdr
                rw [← hV2] at hle
                rw [← hV]
                have q1 : (0 : Int) ≤ (i : Int) := by omega
                have q2 : (i : Int) < (m : Int) + 1 := by omega
                have q3 : (i : Int) < (D.size : Int) := by omega
                have q4 : IntKind.i64.wrap ((i : Int) - 1) = (i : Int) - 1 := IntWalk.i64_in _ (by omega)
                have q5 : IntKind.u64.wrap (128 * (V : Int)) = 128 * (V : Int) := IntWalk.u64_in _ (by omega)
                have q6 : IntKind.u64.wrap ((x.toNat : Int) % 128) = (x.toNat : Int) % 128 := IntWalk.u64_in _ (by omega)
                have q7 : IntKind.u64.wrap (128 * (V : Int) + (x.toNat : Int) % 128) = (V2 : Int) := by rw [IntWalk.u64_in _ (by omega)]; omega
                have HV := Lib.hid hV
                have HV2 := Lib.hid hV2
                have HDR := Lib.hid hdr
                clear hx hV hV2 hdr hle hs64 l1
                go_wp2
                go_roundw
                case rel => exact ⟨i, by omega, rfl, by rw [← HV2.out], by first | rfl | trivial⟩
                case measure => simp [intOf]
              · obtain rfl : j = 0 := by omega
                rw [List.drop_zero]
                by_cases hq : most < dnum D.data.toList
                · have HP := HNUM.out
                  rw [if_pos hq] at HP
                  have HP2 := Lib.hid HP
                  obtain ⟨V, hV⟩ : ∃ V, V = dnum D.data.toList := ⟨_, rfl⟩
                  rw [← hV] at hq ⊢
                  have t1 : decide ((most : Int) < (V : Int)) = true := by simp; omega
                  have t2 : decide (most < V) = true := by simp; omega
                  clear HP hV hq
                  go_wp2
                  go_ret2
                  rw [HP2.out]
                  exact ⟨rfl, rfl⟩
                · have HP := HNUM.out
                  rw [if_neg hq] at HP
                  obtain ⟨V, hV⟩ : ∃ V, V = dnum D.data.toList := ⟨_, rfl⟩
                  rw [← hV] at hq HP ⊢
                  have HP2 := Lib.hid HP
                  have t1 : decide ((most : Int) < (V : Int)) = false := by simp; omega
                  have t2 : decide (most < V) = false := by simp; omega
                  clear HP hV hq
                  go_wp2
                  go_ret2
                  rw [HP2.out]
                  exact ⟨rfl, rfl⟩
        · have b26 : decide ((c.toNat : Int) = 0) = false := by first | (simp; done) | (simp; omega) | omega
          have b27 : decide (c.toNat = 0) = false := by first | (simp; done) | (simp; omega) | omega
          have b28 : ((c.toNat : Int) == 0) = false := by first | (simp; done) | (simp; omega) | omega
          have b29 : (c.toNat == 0) = false := by first | (simp; done) | (simp; omega) | omega
          by_cases hm0 : 0 < m
          · have b30 : decide ((1 : Int) < (m : Int) + 1) = true := by first | (simp; done) | (simp; omega) | omega
            have b31 : decide (0 < m) = true := by first | (simp; done) | (simp; omega) | omega
            have b32 : decide ((0 : Int) < (m : Int)) = true := by first | (simp; done) | (simp; omega) | omega
            have HNUM := Lib.hid (show numP most D.data.toList = (if most < dnum D.data.toList then (11, 0) else (0, dnum D.data.toList)) by rw [hn, if_neg (by omega), if_neg (by omega)])
            replace h64 := h64 (by omega)
            clear hn
            try clear hc0
            try clear hm
            go_enter Try.func101, Try.ntmps101
            have HS64 := Lib.hid h64
            clear h64
            go_wp2
            go_loopw [7, 8] (fun vv ii w' => ∃ j : Nat, j ≤ m + 1 ∧ ii = .int .i64 ((j : Int) - 1) ∧ vv = .int .u64 (dnum (D.data.toList.drop j)) ∧ w' = w) (fun _ ii _ => (intOf ii + 1).toNat)
            case atStart => exact ⟨m + 1, by omega, by first | rfl | go_num | (congr 1; omega), by rw [List.drop_eq_nil_of_le (by show D.size ≤ _; omega)]; rfl, by first | rfl | trivial⟩
            case round =>
              obtain ⟨j, hj, rfl, rfl, rfl⟩ := hrel
              by_cases h0 : 0 < j
              · obtain ⟨i, rfl⟩ : ∃ i, j = i + 1 := ⟨j - 1, by omega⟩
                have l1 : ((i + 1 : Nat) : Int) - 1 = (i : Int) := by omega
                rw [l1]
                have hi : i < D.data.toList.length := by show i < D.size; omega
                have hdr := dnum_drop hi
                have hle := dnum_le D.data.toList i
                obtain ⟨x, hx⟩ : ∃ x : UInt8, x = D.data.toList[i] := ⟨_, rfl⟩
                have hx2 : D[i]'(by omega) = x := hx.symm
                rw [← hx] at hdr
                have h256 := x.toNat_lt
                obtain ⟨V, hV⟩ : ∃ V, V = dnum (D.data.toList.drop (i + 1)) := ⟨_, rfl⟩
                obtain ⟨V2, hV2⟩ : ∃ V2, V2 = dnum (D.data.toList.drop i) := ⟨_, rfl⟩
                have hs64 := HS64.out
                rw [← hV, ← hV2] at hdr
                rw [← hV2] at hle
                rw [← hV]
                have q1 : (0 : Int) ≤ (i : Int) := by omega
                have q2 : (i : Int) < (m : Int) + 1 := by omega
                have q3 : (i : Int) < (D.size : Int) := by omega
                have q4 : IntKind.i64.wrap ((i : Int) - 1) = (i : Int) - 1 := IntWalk.i64_in _ (by omega)
                have q5 : IntKind.u64.wrap (128 * (V : Int)) = 128 * (V : Int) := IntWalk.u64_in _ (by omega)
                have q6 : IntKind.u64.wrap ((x.toNat : Int) % 128) = (x.toNat : Int) % 128 := IntWalk.u64_in _ (by omega)
                have q7 : IntKind.u64.wrap (128 * (V : Int) + (x.toNat : Int) % 128) = (V2 : Int) := by rw [IntWalk.u64_in _ (by omega)]; omega
                have HV := Lib.hid hV
                have HV2 := Lib.hid hV2
                have HDR := Lib.hid hdr
                clear hx hV hV2 hdr hle hs64 l1
                go_wp2
                go_roundw
                case rel => exact ⟨i, by omega, rfl, by rw [← HV2.out], by first | rfl | trivial⟩
                case measure => simp [intOf]
              · obtain rfl : j = 0 := by omega
                rw [List.drop_zero]
                by_cases hq : most < dnum D.data.toList
                · have HP := HNUM.out
                  rw [if_pos hq] at HP
                  have HP2 := Lib.hid HP
                  obtain ⟨V, hV⟩ : ∃ V, V = dnum D.data.toList := ⟨_, rfl⟩
                  rw [← hV] at hq ⊢
                  have t1 : decide ((most : Int) < (V : Int)) = true := by simp; omega
                  have t2 : decide (most < V) = true := by simp; omega
                  clear HP hV hq
                  go_wp2
                  go_ret2
                  rw [HP2.out]
                  exact ⟨rfl, rfl⟩
                · have HP := HNUM.out
                  rw [if_neg hq] at HP
                  obtain ⟨V, hV⟩ : ∃ V, V = dnum D.data.toList := ⟨_, rfl⟩
                  rw [← hV] at hq HP ⊢
                  have HP2 := Lib.hid HP
                  have t1 : decide ((most : Int) < (V : Int)) = false := by simp; omega
                  have t2 : decide (most < V) = false := by simp; omega
                  clear HP hV hq
                  go_wp2
                  go_ret2
                  rw [HP2.out]
                  exact ⟨rfl, rfl⟩
          · have b33 : decide ((1 : Int) < (m : Int) + 1) = false := by first | (simp; done) | (simp; omega) | omega
            have b34 : decide (0 < m) = false := by first | (simp; done) | (simp; omega) | omega
            have b35 : decide ((0 : Int) < (m : Int)) = false := by first | (simp; done) | (simp; omega) | omega
            have HNUM := Lib.hid (show numP most D.data.toList = (if most < dnum D.data.toList then (11, 0) else (0, dnum D.data.toList)) by rw [hn, if_neg (by omega), if_neg (by omega)])
            replace h64 := h64 (by omega)
            clear hn
            try clear hc0
            try clear hm
            go_enter Try.func101, Try.ntmps101
            have HS64 := Lib.hid h64
            clear h64
            go_wp2
            go_loopw [7, 8] (fun vv ii w' => ∃ j : Nat, j ≤ m + 1 ∧ ii = .int .i64 ((j : Int) - 1) ∧ vv = .int .u64 (dnum (D.data.toList.drop j)) ∧ w' = w) (fun _ ii _ => (intOf ii + 1).toNat)
            case atStart => exact ⟨m + 1, by omega, by first | rfl | go_num | (congr 1; omega), by rw [List.drop_eq_nil_of_le (by show D.size ≤ _; omega)]; rfl, by first | rfl | trivial⟩
            case round =>
              obtain ⟨j, hj, rfl, rfl, rfl⟩ := hrel
              by_cases h0 : 0 < j
              · obtain ⟨i, rfl⟩ : ∃ i, j = i + 1 := ⟨j - 1, by omega⟩
                have l1 : ((i + 1 : Nat) : Int) - 1 = (i : Int) := by omega
                rw [l1]
                have hi : i < D.data.toList.length := by show i < D.size; omega
                have hdr := dnum_drop hi
                have hle := dnum_le D.data.toList i
                obtain ⟨x, hx⟩ : ∃ x : UInt8, x = D.data.toList[i] := ⟨_, rfl⟩
                have hx2 : D[i]'(by omega) = x := hx.symm
                rw [← hx] at hdr
                have h256 := x.toNat_lt
                obtain ⟨V, hV⟩ : ∃ V, V = dnum (D.data.toList.drop (i + 1)) := ⟨_, rfl⟩
                obtain ⟨V2, hV2⟩ : ∃ V2, V2 = dnum (D.data.toList.drop i) := ⟨_, rfl⟩
                have hs64 := HS64.out
                rw [← hV, ← hV2] at hdr
                rw [← hV2] at hle
                rw [← hV]
                have q1 : (0 : Int) ≤ (i : Int) := by omega
                have q2 : (i : Int) < (m : Int) + 1 := by omega
                have q3 : (i : Int) < (D.size : Int) := by omega
                have q4 : IntKind.i64.wrap ((i : Int) - 1) = (i : Int) - 1 := IntWalk.i64_in _ (by omega)
                have q5 : IntKind.u64.wrap (128 * (V : Int)) = 128 * (V : Int) := IntWalk.u64_in _ (by omega)
                have q6 : IntKind.u64.wrap ((x.toNat : Int) % 128) = (x.toNat : Int) % 128 := IntWalk.u64_in _ (by omega)
                have q7 : IntKind.u64.wrap (128 * (V : Int) + (x.toNat : Int) % 128) = (V2 : Int) := by rw [IntWalk.u64_in _ (by omega)]; omega
                have HV := Lib.hid hV
                have HV2 := Lib.hid hV2
                have HDR := Lib.hid hdr
                clear hx hV hV2 hdr hle hs64 l1
                go_wp2
                go_roundw
                case rel => exact ⟨i, by omega, rfl, by rw [← HV2.out], by first | rfl | trivial⟩
                case measure => simp [intOf]
              · obtain rfl : j = 0 := by omega
                rw [List.drop_zero]
                by_cases hq : most < dnum D.data.toList
                · have HP := HNUM.out
                  rw [if_pos hq] at HP
                  have HP2 := Lib.hid HP
                  obtain ⟨V, hV⟩ : ∃ V, V = dnum D.data.toList := ⟨_, rfl⟩
                  rw [← hV] at hq ⊢
                  have t1 : decide ((most : Int) < (V : Int)) = true := by simp; omega
                  have t2 : decide (most < V) = true := by simp; omega
                  clear HP hV hq
                  go_wp2
                  go_ret2
                  rw [HP2.out]
                  exact ⟨rfl, rfl⟩
                · have HP := HNUM.out
                  rw [if_neg hq] at HP
                  obtain ⟨V, hV⟩ : ∃ V, V = dnum D.data.toList := ⟨_, rfl⟩
                  rw [← hV] at hq HP ⊢
                  have HP2 := Lib.hid HP
                  have t1 : decide ((most : Int) < (V : Int)) = false := by simp; omega
                  have t2 : decide (most < V) = false := by simp; omega
                  clear HP hV hq
                  go_wp2
                  go_ret2
                  rw [HP2.out]
                  exact ⟨rfl, rfl⟩
    · have hm : m = 9 := by omega
      have hx9 : D[9]'(by rw [hsz, hm]; decide) = c := by subst hm; exact hx
      have b36 : decide ((m : Int) + 1 < 10) = false := by first | (simp; done) | (simp; omega) | omega
      have b37 : decide (m + 1 < 10) = false := by first | (simp; done) | (simp; omega) | omega
      have b38 : decide (m < 9) = false := by first | (simp; done) | (simp; omega) | omega
      have b39 : decide ((m : Int) < 9) = false := by first | (simp; done) | (simp; omega) | omega
      have b40 : decide ((m : Int) + 1 = 10) = true := by first | (simp; done) | (simp; omega) | omega
      have b41 : ((m : Int) + 1 == 10) = true := by first | (simp; done) | (simp; omega) | omega
      have b42 : decide (m = 9) = true := by first | (simp; done) | (simp; omega) | omega
      have b43 : (m == 9) = true := by first | (simp; done) | (simp; omega) | omega
      have b44 : decide (m + 1 = 10) = true := by first | (simp; done) | (simp; omega) | omega
      have b45 : decide ((m : Int) + 1 = 0) = false := by first | (simp; done) | (simp; omega) | omega
      have b46 : ((m : Int) + 1 == 0) = false := by first | (simp; done) | (simp; omega) | omega
      by_cases h1 : 1 < c.toNat
      · have b47 : decide ((1 : Int) < (c.toNat : Int)) = true := by first | (simp; done) | (simp; omega) | omega
        have b48 : decide (1 < c.toNat) = true := by first | (simp; done) | (simp; omega) | omega
        have HP : Hid (numP most D.data.toList = (11, 0)) := Lib.hid (by rw [hn, if_neg (by omega), if_pos (.inl ⟨by omega, h1⟩)])
        clear hn h64
        try clear hm
        go_enter Try.func101, Try.ntmps101
        go_wp2
        go_ret2
        rw [HP.out]
        exact ⟨rfl, rfl⟩
      · have b49 : decide ((1 : Int) < (c.toNat : Int)) = false := by first | (simp; done) | (simp; omega) | omega
        have b50 : decide (1 < c.toNat) = false := by first | (simp; done) | (simp; omega) | omega
        by_cases hc0 : c.toNat = 0
        · have b51 : decide ((c.toNat : Int) = 0) = true := by first | (simp; done) | (simp; omega) | omega
          have b52 : decide (c.toNat = 0) = true := by first | (simp; done) | (simp; omega) | omega
          have b53 : ((c.toNat : Int) == 0) = true := by first | (simp; done) | (simp; omega) | omega
          have b54 : (c.toNat == 0) = true := by first | (simp; done) | (simp; omega) | omega
          by_cases hm0 : 0 < m
          · have b55 : decide ((1 : Int) < (m : Int) + 1) = true := by first | (simp; done) | (simp; omega) | omega
            have b56 : decide (0 < m) = true := by first | (simp; done) | (simp; omega) | omega
            have b57 : decide ((0 : Int) < (m : Int)) = true := by first | (simp; done) | (simp; omega) | omega
            have HP : Hid (numP most D.data.toList = (11, 0)) := Lib.hid (by rw [hn, if_neg (by omega), if_pos (.inr ⟨by omega, hc0⟩)])
            clear hn h64 hc0
            try clear hm
            go_enter Try.func101, Try.ntmps101
            go_wp2
            go_ret2
            rw [HP.out]
            exact ⟨rfl, rfl⟩
          · omega
        · have b58 : decide ((c.toNat : Int) = 0) = false := by first | (simp; done) | (simp; omega) | omega
          have b59 : decide (c.toNat = 0) = false := by first | (simp; done) | (simp; omega) | omega
          have b60 : ((c.toNat : Int) == 0) = false := by first | (simp; done) | (simp; omega) | omega
          have b61 : (c.toNat == 0) = false := by first | (simp; done) | (simp; omega) | omega
          by_cases hm0 : 0 < m
          · have b62 : decide ((1 : Int) < (m : Int) + 1) = true := by first | (simp; done) | (simp; omega) | omega
            have b63 : decide (0 < m) = true := by first | (simp; done) | (simp; omega) | omega
            have b64 : decide ((0 : Int) < (m : Int)) = true := by first | (simp; done) | (simp; omega) | omega
            have HNUM := Lib.hid (show numP most D.data.toList = (if most < dnum D.data.toList then (11, 0) else (0, dnum D.data.toList)) by rw [hn, if_neg (by omega), if_neg (by omega)])
            replace h64 := h64 (by omega)
            clear hn
            try clear hc0
            try clear hm
            go_enter Try.func101, Try.ntmps101
            have HS64 := Lib.hid h64
            clear h64
            go_wp2
            go_loopw [7, 8] (fun vv ii w' => ∃ j : Nat, j ≤ m + 1 ∧ ii = .int .i64 ((j : Int) - 1) ∧ vv = .int .u64 (dnum (D.data.toList.drop j)) ∧ w' = w) (fun _ ii _ => (intOf ii + 1).toNat)
            case atStart => exact ⟨m + 1, by omega, by first | rfl | go_num | (congr 1; omega), by rw [List.drop_eq_nil_of_le (by show D.size ≤ _; omega)]; rfl, by first | rfl | trivial⟩
            case round =>
              obtain ⟨j, hj, rfl, rfl, rfl⟩ := hrel
              by_cases h0 : 0 < j
              · obtain ⟨i, rfl⟩ : ∃ i, j = i + 1 := ⟨j - 1, by omega⟩
                have l1 : ((i + 1 : Nat) : Int) - 1 = (i : Int) := by omega
                rw [l1]
                have hi : i < D.data.toList.length := by show i < D.size; omega
                have hdr := dnum_drop hi
                have hle := dnum_le D.data.toList i
                obtain ⟨x, hx⟩ : ∃ x : UInt8, x = D.data.toList[i] := ⟨_, rfl⟩
                have hx2 : D[i]'(by omega) = x := hx.symm
                rw [← hx] at hdr
                have h256 := x.toNat_lt
                obtain ⟨V, hV⟩ : ∃ V, V = dnum (D.data.toList.drop (i + 1)) := ⟨_, rfl⟩
                obtain ⟨V2, hV2⟩ : ∃ V2, V2 = dnum (D.data.toList.drop i) := ⟨_, rfl⟩
                have hs64 := HS64.out
                rw [← hV, ← hV2] at hdr
                rw [← hV2] at hle
                rw [← hV]
                have q1 : (0 : Int) ≤ (i : Int) := by omega
                have q2 : (i : Int) < (m : Int) + 1 := by omega
                have q3 : (i : Int) < (D.size : Int) := by omega
                have q4 : IntKind.i64.wrap ((i : Int) - 1) = (i : Int) - 1 := IntWalk.i64_in _ (by omega)
                have q5 : IntKind.u64.wrap (128 * (V : Int)) = 128 * (V : Int) := IntWalk.u64_in _ (by omega)
                have q6 : IntKind.u64.wrap ((x.toNat : Int) % 128) = (x.toNat : Int) % 128 := IntWalk.u64_in _ (by omega)
                have q7 : IntKind.u64.wrap (128 * (V : Int) + (x.toNat : Int) % 128) = (V2 : Int) := by rw [IntWalk.u64_in _ (by omega)]; omega
                have HV := Lib.hid hV
                have HV2 := Lib.hid hV2
                have HDR := Lib.hid hdr
                clear hx hV hV2 hdr hle hs64 l1
                go_wp2
                go_roundw
                case rel => exact ⟨i, by omega, rfl, by rw [← HV2.out], by first | rfl | trivial⟩
                case measure => simp [intOf]
              · obtain rfl : j = 0 := by omega
                rw [List.drop_zero]
                by_cases hq : most < dnum D.data.toList
                · have HP := HNUM.out
                  rw [if_pos hq] at HP
                  have HP2 := Lib.hid HP
                  obtain ⟨V, hV⟩ : ∃ V, V = dnum D.data.toList := ⟨_, rfl⟩
                  rw [← hV] at hq ⊢
                  have t1 : decide ((most : Int) < (V : Int)) = true := by simp; omega
                  have t2 : decide (most < V) = true := by simp; omega
                  clear HP hV hq
                  go_wp2
                  go_ret2
                  rw [HP2.out]
                  exact ⟨rfl, rfl⟩
                · have HP := HNUM.out
                  rw [if_neg hq] at HP
                  obtain ⟨V, hV⟩ : ∃ V, V = dnum D.data.toList := ⟨_, rfl⟩
                  rw [← hV] at hq HP ⊢
                  have HP2 := Lib.hid HP
                  have t1 : decide ((most : Int) < (V : Int)) = false := by simp; omega
                  have t2 : decide (most < V) = false := by simp; omega
                  clear HP hV hq
                  go_wp2
                  go_ret2
                  rw [HP2.out]
                  exact ⟨rfl, rfl⟩
          · omega

theorem digsL (l : List UInt8) : (⟨l.toArray⟩ : ByteArray).data.toList = l := by simp
set_option maxRecDepth 100000 in
theorem duint_any (g : Nat) (b : ByteArray) (most : Nat) (s : RS) (w : World) (h : Rdd w g b s) (hb : b.size ≤ 140737488355328) (hm : most < 18446744073709551616) :
    Calls Try.prog 88 #[.pointer (some ⟨g, 0, none⟩), .int .u64 most] w fun e w' => e = .returned (.int .u64 (rdU b.data.toList most s).1) ∧ Rdd w' g b (rdU b.data.toList most s).2 ∧ w.grownBy w' (some g) := by
  obtain ⟨n, er⟩ := s
  have c1 : w.cell? ⟨g, 1, none⟩ = some (.int .i64 n) := h.1.cell 1
  have c2 : w.cell? ⟨g, 2, none⟩ = some (.int .i64 er) := h.1.cell 2
  have f1 := h.1.frozen 1
  have H := Lib.hid h
  have hn : n ≤ b.size := h.2
  by_cases he : er = 0
  · subst he
    clear h
    have hdl := digs_len 10 (b.data.toList.drop n)
    obtain ⟨d, hd⟩ : ∃ d, d = digs 10 (b.data.toList.drop n) := ⟨_, rfl⟩
    have HP : Hid (rdU b.data.toList most ⟨n, 0⟩ = if (numP most d).1 = 0 then ((numP most d).2, ⟨n + d.length, 0⟩) else (0, ⟨n, (numP most d).1⟩)) := Lib.hid (by
      rw [rdU, if_pos rfl, uscan_num, ← hd]
      simp only
      split <;> rfl)
    rw [← hd] at hdl
    have hsz : (⟨d.toArray⟩ : ByteArray).size = d.length := by simp [ByteArray.size]
    have hl2 : n + d.length ≤ b.size := by
      have := hdl.2
      rw [List.length_drop] at this
      have e : b.data.toList.length = b.size := rfl
      omega
    have HD := Lib.hid hd
    have HSZ : Hid ((⟨d.toArray⟩ : ByteArray).size ≤ 10) := Lib.hid (by rw [hsz]; exact hdl.1)
    have HR := Lib.hid (rdU_place (b := b.data.toList) (most := most) (s := ⟨n, 0⟩) hn)
    obtain ⟨z, hz⟩ : ∃ z, z = (numP most d).1 := ⟨_, rfl⟩
    obtain ⟨v, hv⟩ : ∃ v, v = (numP most d).2 := ⟨_, rfl⟩
    have HC : Hid (∀ W : World, Calls Try.prog 101 #[.string ⟨d.toArray⟩, .int .u64 most] W fun e w' => e = .returned (.tuple #[.int .u64 v, .int .i64 z]) ∧ W = w') := Lib.hid (fun W => by
      have := number_any ⟨d.toArray⟩ most W HSZ.out hm
      rw [digsL, ← hz, ← hv] at this
      exact this)
    rw [← hz, ← hv] at HP
    clear hd hz hv hsz hdl
    go_enter Try.func88, Try.ntmps88
    go_wp2_with fail
    refine (digits_any g b n _ H.out hb).mono ?_
    rintro e w1 ⟨rfl, hw1⟩
    obtain ⟨m, rfl⟩ := hw1
    rw [← HD.out]
    go_wp2_with fail
    refine (HC.out _).mono ?_
    rintro e w1 ⟨rfl, rfl⟩
    by_cases h0 : z = 0
    · have HP2 := Lib.hid (show rdU b.data.toList most ⟨n, 0⟩ = (v, ⟨n + d.length, 0⟩) by rw [HP.out, if_pos h0])
      subst h0
      have l1 : IntKind.i64.wrap ((n : Int) + (d.length : Int)) = (n : Int) + (d.length : Int) := IntWalk.i64_in _ (by omega)
      have hsz : (⟨d.toArray⟩ : ByteArray).size = d.length := by simp [ByteArray.size]
      go_wp2
      go_ret
      rw [HP2.out]
      exact ⟨rfl, ⟨by exact (H.out.1.drewN _).set_ 1 _, hl2⟩, grown_trans (grown_drewN (grown_refl w _) _) (grown_set 1 _)⟩
    · have HP2 := Lib.hid (show rdU b.data.toList most ⟨n, 0⟩ = (0, ⟨n, z⟩) by rw [HP.out, if_neg h0])
      have q1 : (z != 0) = true := by simpa using h0
      have q2 : decide (z = 0) = false := by simpa using h0
      clear h0
      go_wp2_with fail
      refine (dfail_any g b ⟨n, 0⟩ z _ (H.out.drewN _)).mono ?_
      rintro e w1 ⟨rfl, h1, g1⟩
      have H1 : Hid (Rdd w1 g b ⟨n, z⟩) := Lib.hid h1
      have G1 := Lib.hid (grown_trans (grown_drewN (grown_refl w _) _) g1)
      clear h1 g1
      go_wp2
      go_ret
      rw [HP2.out]
      exact ⟨rfl, H1.out, G1.out⟩
  · have HP : Hid (rdU b.data.toList most ⟨n, er⟩ = (0, ⟨n, er⟩)) := Lib.hid (by rw [rdU, if_neg he])
    have q1 : (er != 0) = true := by simpa using he
    have q2 : decide (er = 0) = false := by simpa using he
    clear he h
    go_enter Try.func88, Try.ntmps88
    go_wp2
    go_ret
    rw [HP.out]
    exact ⟨rfl, H.out, grown_refl w _⟩
theorem dtext_any (g : Nat) (b : ByteArray) (most : Nat) (s : RS) (w : World) (h : Rdd w g b s) (hb : b.size ≤ 140737488355328) (hm : most ≤ 140737488355328) :
    Calls Try.prog 90 #[.pointer (some ⟨g, 0, none⟩), .int .i64 most] w fun e w' => e = .returned (.string ⟨(rdT b.data.toList most s).1.toArray⟩) ∧ Rdd w' g b (rdT b.data.toList most s).2 ∧ w.grownBy w' (some g) := by
  have c1 : w.cell? ⟨g, 1, none⟩ = some (.int .i64 s.n) := h.1.cell 1
  have H := Lib.hid h
  have hn : s.n ≤ b.size := h.2
  have e1 : IntKind.u64.wrap (most : Int) = (most : Int) := IntWalk.u64_in _ (by omega)
  have hle := rdU_le b.data.toList most s
  have e2 : IntKind.i64.wrap ((rdU b.data.toList most s).1 : Int) = ((rdU b.data.toList most s).1 : Int) := IntWalk.i64_in _ (by omega)
  have e3 : decide ((most : Int) < 0) = false := by simp
  have e4 : max (most : Int) 0 = (most : Int) := by omega
  clear h
  go_enter Try.func90, Try.ntmps90
  go_wp2_with fail
  refine (duint_any g b most s _ H.out hb (by omega)).mono ?_
  rintro e w1 ⟨rfl, h1, g1⟩
  have H1 := Lib.hid h1
  have G1 := Lib.hid g1
  clear h1 g1 c1
  go_wp2_with fail
  refine (draw_any g b _ _ _ H1.out hb (by omega)).mono ?_
  rintro e w2 ⟨rfl, h2, g2⟩
  have H2 := Lib.hid h2
  have G2 := Lib.hid (grown_trans G1.out g2)
  have d1 : w2.cell? ⟨g, 1, none⟩ = some (.int .i64 (rdR b.data.toList (rdU b.data.toList most s).1 (rdU b.data.toList most s).2).2.n) := h2.1.cell 1
  obtain ⟨z, hz⟩ : ∃ z, z = (rdR b.data.toList (rdU b.data.toList most s).1 (rdU b.data.toList most s).2).2.e := ⟨_, rfl⟩
  have d3 : w2.cell? ⟨g, 2, none⟩ = some (.int .i64 z) := by rw [hz]; exact h2.1.cell 2
  have d2 := h2.1.frozen 1
  clear h2 g2
  by_cases h0 : z = 0
  · have HP : Hid (rdT b.data.toList most s = rdR b.data.toList (rdU b.data.toList most s).1 (rdU b.data.toList most s).2) := Lib.hid (by rw [rdT, if_pos (by rw [← hz]; exact h0)])
    rw [h0] at d3
    clear h0 hz
    go_wp2
    go_ret
    rw [HP.out]
    exact ⟨rfl, H2.out, G2.out⟩
  · have HP : Hid (rdT b.data.toList most s = ([], ⟨s.n, (rdR b.data.toList (rdU b.data.toList most s).1 (rdU b.data.toList most s).2).2.e⟩)) := Lib.hid (by rw [rdT, if_neg (by rw [← hz]; exact h0)])
    have q1 : (z != 0) = true := by simpa using h0
    have q2 : decide (z = 0) = false := by simpa using h0
    clear h0 hz
    go_wp2
    go_ret
    rw [HP.out]
    exact ⟨rfl, ⟨by exact H2.out.1.set_ 1 _, hn⟩, grown_trans G2.out (grown_set 1 _)⟩
theorem dend_at (g : Nat) (b : ByteArray) (s : RS) (x : Int) (w : World) (h : Rdd w g b s) (hx : endP b.data.toList s = x) :
    Calls Try.prog 64 #[.pointer (some ⟨g, 0, none⟩)] w fun e w' => e = .returned (.int .i64 x) ∧ Drawn w w' := by
  subst hx
  obtain ⟨n, er⟩ := s
  have c0 : w.cell? ⟨g, 0, none⟩ = some (.string b) := h.1.cell 0
  have c1 : w.cell? ⟨g, 1, none⟩ = some (.int .i64 n) := h.1.cell 1
  have c2 : w.cell? ⟨g, 2, none⟩ = some (.int .i64 er) := h.1.cell 2
  have hn : n ≤ b.size := h.2
  clear h
  by_cases he : er = 0
  · by_cases hl : n < b.size
    · have HP : Hid (endP b.data.toList ⟨n, er⟩ = 12) := Lib.hid (by rw [endP, if_pos ⟨he, hl⟩])
      subst he
      have l1 : decide ((n : Int) < (b.size : Int)) = true := by simp; omega
      have l2 : decide (n < b.size) = true := by simp; omega
      go_enter Try.func64, Try.ntmps64
      go_wp2
      go_quiet (fail)
      go_wp2
      go_ret
      exact ⟨by rw [HP.out]; rfl, ⟨_, rfl⟩⟩
    · have HP : Hid (endP b.data.toList ⟨n, er⟩ = 0) := Lib.hid (by rw [endP, if_neg (fun h => hl h.2)]; exact he)
      subst he
      have l1 : decide ((n : Int) < (b.size : Int)) = false := by simp; omega
      have l2 : decide (n < b.size) = false := by simp; omega
      go_enter Try.func64, Try.ntmps64
      go_wp2
      go_quiet (fail)
      go_wp2
      go_ret
      exact ⟨by rw [HP.out]; rfl, ⟨_, rfl⟩⟩
  · have HP : Hid (endP b.data.toList ⟨n, er⟩ = er) := Lib.hid (by rw [endP, if_neg (fun h => he h.1)])
    have e1 : decide (er = 0) = false := by simpa using he
    have e2 : (er == 0) = false := by simpa using he
    clear he
    go_enter Try.func64, Try.ntmps64
    go_wp2
    go_quiet (fail)
    go_wp2
    go_ret
    exact ⟨by rw [HP.out]; rfl, ⟨_, rfl⟩⟩
end Go.Proofs.Ytlmnmlehnigfdaa
