/- DERIVED. Dots in memory; how numbers and dots compare. -/
import Derived.Test.YtljfigikkajlnaaVDvPlain
import Derived.Test.YtljfigikkajlnaaVGRow
import Derived.Test.YtljfigikkajlnaaVm6
namespace Go.Proofs.Ytljfigikkajlnaa
open Go.RowKit
set_option linter.unusedVariables false
set_option linter.unusedSimpArgs false
def dotK : GR.Kind Dot where
  e := 41
  s := 2
  b := 16
  enc := fun d => [.int .u32 d.a, .int .u64 d.n]
  len := fun _ => rfl
  one := fun x u hu => by
    simp only [List.mem_cons, List.not_mem_nil, or_false] at hu
    rcases hu with rfl | rfl <;> rfl
  hs := by omega
  hb := by omega
theorem dot_info : (Try.prog.info? 41).map (fun i => (i.zero, i.size, i.bytes)) = some (some (.agg #[.int .u32 0, .int .u64 0]), 2, 16) := by kernel_rfl
def sibK : GR.Kind Sib where
  e := 67
  s := 4
  b := 40
  enc := fun x => [.int .u32 x.d.a, .int .u64 x.d.n, .bool x.gone, .string x.v]
  len := fun _ => rfl
  one := fun x u hu => by
    simp only [List.mem_cons, List.not_mem_nil, or_false] at hu
    rcases hu with rfl | rfl | rfl | rfl <;> rfl
  hs := by omega
  hb := by omega
theorem sib_info : (Try.prog.info? 67).map (fun i => (i.zero, i.size, i.bytes)) = some (some (.agg #[.int .u32 0, .int .u64 0, .bool false, .string ⟨#[]⟩]), 4, 40) := by kernel_rfl
theorem add_off (ad : Addr) (m k : Nat) (hk : 0 < k) : ad.add (m + k) = ⟨(ad.add m).block, (ad.add m).off + k, none⟩ := by
  unfold Addr.add
  by_cases hm : m = 0
  · subst hm; simp; omega
  · simp [hm, Nat.add_assoc]
/-- A dot in a slice, in the walk's own spelling. -/
theorem dot_at {w : World} {A : Option Addr} {l : List Dot} (h : GR.Rd dotK w A l) (i : Nat) (hi : i < l.length) : ∃ ad, A = some ad ∧ (ad.add (i * 2)).block < w.heap.size ∧ w.cell? (ad.add (i * 2)) = some (.int .u32 l[i].a) ∧
    w.cell? ⟨(ad.add (i * 2)).block, (ad.add (i * 2)).off + 1, none⟩ = some (.int .u64 l[i].n) := by
  obtain ⟨ad, e, hb, hc⟩ := h.at_ i hi
  refine ⟨ad, e, by rw [block_of_add']; exact hb, hc 0 _ rfl, ?_⟩
  rw [← add_off ad (i * 2) 1 (by omega)]; exact hc 1 _ rfl
where block_of_add' {a : Addr} {n : Nat} : (a.add n).block = a.block := GR.block_of_add a n
theorem dot_head {w : World} {A : Option Addr} {l : List Dot} (h : GR.Rd dotK w A l) (hi : 0 < l.length) : ∃ ad, A = some ad ∧ ad.block < w.heap.size ∧ w.cell? ad = some (.int .u32 l[0].a) ∧
    w.cell? ⟨ad.block, ad.off + 1, none⟩ = some (.int .u64 l[0].n) := by
  obtain ⟨ad, e, hb, c0, c1⟩ := dot_at h 0 hi
  rw [show 0 * 2 = 0 from rfl, Addr.add_zero'] at c0 c1 hb
  exact ⟨ad, e, hb, c0, c1⟩
theorem sib_at {w : World} {A : Option Addr} {l : List Sib} (h : GR.Rd sibK w A l) (i : Nat) (hi : i < l.length) : ∃ ad, A = some ad ∧ (ad.add (i * 4)).block < w.heap.size ∧ w.cell? (ad.add (i * 4)) = some (.int .u32 l[i].d.a) ∧
    w.cell? ⟨(ad.add (i * 4)).block, (ad.add (i * 4)).off + 1, none⟩ = some (.int .u64 l[i].d.n) ∧ w.cell? ⟨(ad.add (i * 4)).block, (ad.add (i * 4)).off + 2, none⟩ = some (.bool l[i].gone) ∧
    w.cell? ⟨(ad.add (i * 4)).block, (ad.add (i * 4)).off + 3, none⟩ = some (.string l[i].v) := by
  obtain ⟨ad, e, hb, hc⟩ := h.at_ i hi
  refine ⟨ad, e, by rw [GR.block_of_add]; exact hb, hc 0 _ rfl, ?_, ?_, ?_⟩
  · rw [← add_off ad (i * 4) 1 (by omega)]; exact hc 1 _ rfl
  · rw [← add_off ad (i * 4) 2 (by omega)]; exact hc 2 _ rfl
  · rw [← add_off ad (i * 4) 3 (by omega)]; exact hc 3 _ rfl
def cmpI (x y : Int) : Int := if x < y then -1 else if y < x then 1 else 0
theorem nan32_any (x : Int) (w : World) : Calls Try.prog 130 #[.int .u32 x] w fun e w' => e = .returned (.bool false) ∧ w = w' := by
  go_enter Try.func130, Try.ntmps130
  go_wp2
  go_ret
  exact ⟨by simp, rfl⟩
theorem nan64_any (x : Int) (w : World) : Calls Try.prog 131 #[.int .u64 x] w fun e w' => e = .returned (.bool false) ∧ w = w' := by
  go_enter Try.func131, Try.ntmps131
  go_wp2
  go_ret
  exact ⟨by simp, rfl⟩
set_option maxHeartbeats 800000 in
theorem cmp32_any (x y : Int) (w : World) : Calls Try.prog 114 #[.int .u32 x, .int .u32 y] w fun e w' => e = .returned (.int .i64 (cmpI x y)) ∧ w = w' := by
  have HC : Hid ((x < y → cmpI x y = -1) ∧ (y < x → cmpI x y = 1) ∧ (x = y → cmpI x y = 0)) := Lib.hid (by unfold cmpI; refine ⟨fun h => by rw [if_pos h], fun h => by rw [if_neg (by omega), if_pos h], fun h => by rw [if_neg (by omega), if_neg (by omega)]⟩)
  rcases Int.lt_trichotomy x y with h | h | h
  · have HV := Lib.hid (HC.out.1 h)
    clear HC
    go_enter Try.func114, Try.ntmps114
    go_wp2_with (go_at_call 130; refine (nan32_any _ _).mono ?_; rintro e w' ⟨rfl, rfl⟩)
    go_ret
    exact ⟨ret_int HV.out.symm, rfl⟩
  · have HV := Lib.hid (HC.out.2.2 h)
    subst h
    clear HC
    go_enter Try.func114, Try.ntmps114
    go_wp2_with (go_at_call 130; refine (nan32_any _ _).mono ?_; rintro e w' ⟨rfl, rfl⟩)
    go_ret
    exact ⟨ret_int HV.out.symm, rfl⟩
  · have HV := Lib.hid (HC.out.2.1 h)
    clear HC
    go_enter Try.func114, Try.ntmps114
    go_wp2_with (go_at_call 130; refine (nan32_any _ _).mono ?_; rintro e w' ⟨rfl, rfl⟩)
    go_ret
    exact ⟨ret_int HV.out.symm, rfl⟩
set_option maxHeartbeats 800000 in
theorem cmp64_any (x y : Int) (w : World) : Calls Try.prog 115 #[.int .u64 x, .int .u64 y] w fun e w' => e = .returned (.int .i64 (cmpI x y)) ∧ w = w' := by
  have HC : Hid ((x < y → cmpI x y = -1) ∧ (y < x → cmpI x y = 1) ∧ (x = y → cmpI x y = 0)) := Lib.hid (by unfold cmpI; refine ⟨fun h => by rw [if_pos h], fun h => by rw [if_neg (by omega), if_pos h], fun h => by rw [if_neg (by omega), if_neg (by omega)]⟩)
  rcases Int.lt_trichotomy x y with h | h | h
  · have HV := Lib.hid (HC.out.1 h)
    clear HC
    go_enter Try.func115, Try.ntmps115
    go_wp2_with (go_at_call 131; refine (nan64_any _ _).mono ?_; rintro e w' ⟨rfl, rfl⟩)
    go_ret
    exact ⟨ret_int HV.out.symm, rfl⟩
  · have HV := Lib.hid (HC.out.2.2 h)
    subst h
    clear HC
    go_enter Try.func115, Try.ntmps115
    go_wp2_with (go_at_call 131; refine (nan64_any _ _).mono ?_; rintro e w' ⟨rfl, rfl⟩)
    go_ret
    exact ⟨ret_int HV.out.symm, rfl⟩
  · have HV := Lib.hid (HC.out.2.1 h)
    clear HC
    go_enter Try.func115, Try.ntmps115
    go_wp2_with (go_at_call 131; refine (nan64_any _ _).mono ?_; rintro e w' ⟨rfl, rfl⟩)
    go_ret
    exact ⟨ret_int HV.out.symm, rfl⟩
theorem new_at (w : World) (t : TypeId) (cs : Array Value) {H : Nat} (h : w.heap.size = H) : GR.Blk (w.alloc (.cells cs t)) H t cs := by
  subst h; exact GR.Blk.new w t cs
def orI (x y : Int) : Int := if x = 0 then y else x
/-- cmp.Or of two numbers. -/
theorem or_any (b : Nat) (x y : Int) (w : World) (hb : GR.Blk w b 3 #[.int .i64 x, .int .i64 y]) :
    Calls Try.prog 113 #[.slice (some ⟨b, 0, none⟩) 2 2] w fun e w' => e = .returned (.int .i64 (orI x y)) ∧ w = w' := by
  have hc0 : w.cell? ⟨b, 0, none⟩ = some (.int .i64 x) := hb.cell 0
  have hc1 : w.cell? ⟨b, 1, none⟩ = some (.int .i64 y) := hb.cell 1
  clear hb
  have HI : Hid ((x = 0 → orI x y = y) ∧ (x ≠ 0 → orI x y = x)) := Lib.hid ⟨fun h => by unfold orI; rw [if_pos h], fun h => by unfold orI; rw [if_neg h]⟩
  go_enter Try.func113, Try.ntmps113
  go_wp2
  go_loop [8] (fun i => ∃ k : Nat, k ≤ 2 ∧ i = .int .i64 k ∧ Hid (1 ≤ k → x = 0) ∧ Hid (2 ≤ k → y = 0)) (fun i => 2 - (intOf i).toNat)
  case atStart => exact ⟨0, by omega, rfl, Lib.hid (by omega), Lib.hid (by omega)⟩
  case round =>
    obtain ⟨k, hk, rfl, h1, h2⟩ := hrel
    have hk3 : k = 0 ∨ k = 1 ∨ k = 2 := by omega
    rcases hk3 with rfl | rfl | rfl
    · by_cases hx : x = 0
      · subst hx
        go_wp2
        go_round
        case rel => exact ⟨1, by omega, rfl, Lib.hid (by simp), Lib.hid (by omega)⟩
        case measure => simp [intOf]
      · have b0 : (x != 0) = true := by simpa using hx
        have HR := Lib.hid (HI.out.2 hx)
        clear hx
        go_wp2
        go_ret
        exact ⟨ret_int HR.out.symm, rfl⟩
    · have HX := h1.out (by omega)
      by_cases hy : y = 0
      · have HYY := Lib.hid hy
        have b0 : (y != 0) = false := by simpa using hy
        clear hy HX
        go_wp2
        go_round
        case rel => exact ⟨2, by omega, rfl, Lib.hid (fun _ => h1.out (by omega)), Lib.hid (fun _ => HYY.out)⟩
        case measure => simp [intOf]
      · have b0 : (y != 0) = true := by simpa using hy
        have HR := Lib.hid (HI.out.1 HX)
        clear hy HX
        go_wp2
        go_ret
        exact ⟨ret_int HR.out.symm, rfl⟩
    · have HX := h1.out (by omega)
      have HY := h2.out (by omega)
      have HR := Lib.hid ((HI.out.1 HX).trans HY)
      clear HX HY
      go_wp2
      go_ret
      exact ⟨ret_int HR.out.symm, rfl⟩
theorem cmpD_eq (x y : Dot) : orI (cmpI x.a y.a) (cmpI x.n y.n) = cmpD x y := by
  unfold orI cmpI cmpD
  rcases ltD_tri x y with ⟨h, hn, h2⟩ | h | ⟨h, hn, h2⟩
  · rw [if_pos h]
    rw [ltD_iff] at h
    rcases h with h | ⟨h, h3⟩
    · simp [h]
    · simp [h, h3]
  · subst h
    rw [ltD_irrefl]
    simp
  · simp only [h2, hn, Bool.false_eq_true, if_false]
    rw [ltD_iff] at h
    rcases h with h | ⟨h, h3⟩
    · have h4 : ¬ x.a < y.a := by omega
      simp [h, h4]
    · have h4 : ¬ x.n < y.n := by omega
      simp [h, h3, h4]
theorem cmpD_lt {x y : Dot} (h : ltD x y = true) : cmpD x y = -1 := by unfold cmpD; rw [if_pos h]
theorem cmpD_self (x : Dot) : cmpD x x = 0 := by unfold cmpD; rw [ltD_irrefl]; simp
theorem cmpD_gt {x y : Dot} (h : ltD y x = true) : cmpD x y = 1 := by
  unfold cmpD
  rcases ltD_tri x y with ⟨_, _, h2⟩ | rfl | ⟨_, hn, h2⟩
  · rw [h] at h2; cases h2
  · rw [ltD_irrefl] at h; cases h
  · simp [h2, hn]
set_option maxRecDepth 100000 in
set_option maxHeartbeats 3200000 in
theorem order_any (x y : Dot) (w : World) : Calls Try.prog 75 #[.agg #[.int .u32 x.a, .int .u64 x.n], .agg #[.int .u32 y.a, .int .u64 y.n]] w fun e w' => e = .returned (.int .i64 (cmpD x y)) ∧ Below w.heap.size w w' := by
  have HD := Lib.hid (cmpD_eq x y)
  go_enter Try.func75, Try.ntmps75
  go_wp2
  go_region_held3 (fun w' => w'.cell? ⟨w.heap.size, 0, none⟩ = some (.int .u32 x.a) ∧ w'.cell? ⟨w.heap.size, 1, none⟩ = some (.int .u64 x.n) ∧ w'.cell? ⟨w.heap.size + 1, 0, none⟩ = some (.int .u32 y.a) ∧ w'.cell? ⟨w.heap.size + 1, 1, none⟩ = some (.int .u64 y.n)) (first | go_keep) (first
    | (go_at_call 114; refine (cmp32_any _ _ _).mono ?_; rintro e w2 ⟨rfl, rfl⟩)
    | (go_at_call 115; refine (cmp64_any _ _ _).mono ?_; rintro e w2 ⟨rfl, rfl⟩)
    | (go_at_call 113; refine (or_any _ (cmpI x.a y.a) (cmpI x.n y.n) _ (new_at _ _ _ (by simp)).drew).mono ?_; rintro e w2 ⟨rfl, rfl⟩))
  go_wp2
  go_ret
  exact ⟨ret_int HD.out, (by repeat (first | exact Below.refl _ _ | refine bl_drewN ?_ _ | refine bl_drew ?_ | refine bl_alloc ?_ _))⟩
end Go.Proofs.Ytljfigikkajlnaa
