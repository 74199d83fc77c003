/- DERIVED. DvvUpward: the walk of the law. -/
import Derived.Test.YtlmnmlehnigfdaaDvAwake
import Derived.Test.YtlmnmlehnigfdaaDvUpP
import Derived.Test.YtlmnmlehnigfdaaDvLatW
import Derived.WalkMore
namespace Go.Proofs.Ytlmnmlehnigfdaa
open Go.RowKit Go.Proofs.YtlmnmlehnigfdaaW.PrintWords
set_option linter.unusedVariables false
set_option linter.unusedSimpArgs false
attribute [local go_sem high] eqD eqS

/-- What a put that is made does, its answer by letters. -/
structure UpF (s : List Dot) (l : List Sib) (ctx : List Dot) (a : Int) (v : ByteArray) (g : Bool) (D : Dot) (T : List Dot) (L : List Sib) : Prop where
  sta : staB s l = true
  da : D.a = a
  dn : 0 ≤ D.n
  valid : staB T L = true
  cov_s : cov s D = false
  cov_c : cov ctx D = false
  cov_d : cov T D = true
  below : belS s l T L = true
  other : stEq s l T L = false
  ctxb : vbel ctx T = true
  hL : insS ⟨D, g, v⟩ (keepS ctx l) = L
  hn : ∀ y ∈ keepS ctx l, y.d ≠ D
theorem up_facts {s ctx : List Dot} {l : List Sib} {a : Int} {v : ByteArray} {g : Bool} (h : putE s l ctx a v g = 0) : ∃ D T L, putD s l ctx a v g = D ∧ putA s l ctx a v g = T ∧ putL s l ctx a v g = L ∧ UpF s l ctx a v g D T L := by
  have P := put_up h
  refine ⟨_, _, _, rfl, rfl, rfl, ⟨P.sta, ?_, ?_, P.valid, ?_, ?_, ?_, P.below, P.other, P.ctxb, ?_, ?_⟩⟩
  · rw [P.hD]; rfl
  · rw [P.hD]; have := (putN_bound s ctx a).1; show 0 ≤ putN s ctx a + 1; omega
  · rw [P.hD]; exact P.cov_s
  · rw [P.hD]; exact P.cov_c
  · rw [P.hD]; exact P.cov_d
  · rw [P.hD, P.hL]; rfl
  · rw [P.hD]; exact fun y hy => put_new P.sta y (keep_mem.1 hy).1
theorem vbelow_at (A B : Option Addr) (c d n m : Nat) (a b : List Dot) (r : Bool) (w : World) (ha : GR.Rd dotK w A a) (hb : GR.Rd dotK w B b) (h1 : n = a.length) (h2 : m = b.length) (hca : n ≤ c) (hcb : m ≤ d) (na : ∀ d ∈ a, 0 ≤ d.n) (nb : ∀ d ∈ b, 0 ≤ d.n) (hr : vbel a b = r) :
    Calls Try.prog 36 #[.slice A n c, .slice B m d] w fun e w' => e = .returned (.bool r) ∧ Below w.heap.size w w' := by
  subst h1 h2 hr
  exact below_any A B c d a b w ha hb hca hcb na nb

set_option maxRecDepth 100000 in
set_option maxHeartbeats 25600000 in
theorem upward_walk (A B C : Option Addr) (c d c2 : Nat) (s : List Dot) (l : List Sib) (ctx : List Dot) (a : Int) (v : ByteArray) (g : Bool) (w : World) (hs : GR.Rd dotK w A s) (hl : GR.Rd sibK w B l) (hc : GR.Rd dotK w C ctx) (hcs : s.length ≤ c) (hcc : ctx.length ≤ c2)
    (ns : ∀ d ∈ s, 0 ≤ d.n) (nl : ∀ x ∈ l, 0 ≤ x.d.n) (nc : ∀ d ∈ ctx, 0 ≤ d.n) :
    Calls Try.prog 9 #[.agg #[.slice A s.length c, .slice B l.length d], .agg #[.slice C ctx.length c2, .int .u32 a, .string v, .bool g]] w fun e w' => e = .returned (.bool true) ∧ Below w.heap.size w w' := by
  obtain ⟨j0, hj0, jz0, jz1, jz2⟩ := info_parts sib_info
  have HP := Lib.hid (put_pos (a := a) (v := v) (g := g) ns nl nc)
  have HJ := Lib.hid (put_small s l ctx a v g)
  have HS1 := Lib.hid hs
  have HL1 := Lib.hid hl
  have HC1 := Lib.hid hc
  have NS := Lib.hid ns
  have NL := Lib.hid nl
  have NC := Lib.hid nc
  clear hs hl hc ns nl nc
  go_enter Try.func9, Try.ntmps9
  go_wp2_with fail
  obtain ⟨W1, hW1⟩ : ∃ W1 : World, W1 = (w.alloc (.cells #[.slice A s.length c, .slice B l.length d] 25)).alloc (.cells #[.slice C ctx.length c2, .int .u32 a, .string v, .bool g] 28) := ⟨_, rfl⟩
  rw [← hW1]
  have LW : Hid (Below w.heap.size w W1) := Lib.hid (by rw [hW1]; exact (by repeat (first | exact Below.refl _ _ | refine bl_drewN ?_ _ | refine bl_drew ?_ | refine bl_alloc ?_ _)))
  have XA : Hid (GR.Blk W1 w.heap.size 25 #[.slice A s.length c, .slice B l.length d]) := Lib.hid (by rw [hW1]; exact (GR.Blk.new _ _ _).alloc _)
  have XB : Hid (GR.Blk W1 (w.heap.size + 1) 28 #[.slice C ctx.length c2, .int .u32 a, .string v, .bool g]) := Lib.hid (by rw [hW1]; exact new_at _ _ _ (by simp))
  clear hW1
  have F1 := Lib.hid (HS.nil W1)
  have F2 := Lib.hid (HS.addB F1.out (g := w.heap.size) (t := 25) (cs := #[.slice A s.length c, .slice B l.length d]) (XA.out))
  clear F1
  have F3 := Lib.hid (HS.addB F2.out (g := w.heap.size + 1) (t := 28) (cs := #[.slice C ctx.length c2, .int .u32 a, .string v, .bool g]) (XB.out))
  clear F2
  have F4 := Lib.hid (F3.out.addR (HS1.out.below LW.out))
  clear F3
  have F5 := Lib.hid (F4.out.addR (HL1.out.below LW.out))
  clear F4
  have F6 := Lib.hid (F5.out.addR (HC1.out.below LW.out))
  clear F5
  clear XA XB
  have BB := Lib.hid (Below.refl W1.heap.size W1)
  refine (awake_any _).mono ?_
  rintro e w2 ⟨rfl, hb⟩
  have F7 := Lib.hid (F6.out.below hb)
  clear F6
  replace BB := Lib.hid (bl_then BB.out hb)
  clear hb
  have ps_0 : w2.cell? ⟨w.heap.size, 0, none⟩ = some (.slice A s.length c) := (F7.out.blk 4 rfl).cell 0
  have ps_1 : w2.cell? ⟨w.heap.size, 1, none⟩ = some (.slice B l.length d) := (F7.out.blk 4 rfl).cell 1
  have pp_0 : w2.cell? ⟨w.heap.size + 1, 0, none⟩ = some (.slice C ctx.length c2) := (F7.out.blk 3 rfl).cell 0
  have pp_1 : w2.cell? ⟨w.heap.size + 1, 1, none⟩ = some (.int .u32 a) := (F7.out.blk 3 rfl).cell 1
  have pp_2 : w2.cell? ⟨w.heap.size + 1, 2, none⟩ = some (.string v) := (F7.out.blk 3 rfl).cell 2
  have pp_3 : w2.cell? ⟨w.heap.size + 1, 3, none⟩ = some (.bool g) := (F7.out.blk 3 rfl).cell 3
  have ps_lt : w.heap.size < w2.heap.size := (F7.out.blk 4 rfl).lt
  have pp_lt : w.heap.size + 1 < w2.heap.size := (F7.out.blk 3 rfl).lt
  go_wp2_with fail
  clear ps_0 ps_1 ps_lt pp_0 pp_1 pp_2 pp_3 pp_lt
  refine (dvvPut_any A B C c d c2 s l ctx a v g _ (F7.out.rd 2 rfl) (F7.out.rd 1 rfl) (F7.out.rd 0 rfl) hcs hcc NS.out NL.out NC.out).mono ?_
  rintro e w3 ⟨v1, v2, rfl, ho, hb⟩
  have F8 := Lib.hid (F7.out.below hb)
  clear F7
  replace BB := Lib.hid (bl_then BB.out hb)
  clear hb
  by_cases h0 : putE s l ctx a v g = 0
  · rw [h0]
    have jd := HJ.out.1
    have js := HJ.out.2
    have NP := Lib.hid HP.out
    obtain ⟨D, T, L, eD, eT, eL, UP⟩ := up_facts h0
    rw [eD]
    rw [eT, eL] at ho
    rw [eT] at jd NP
    rw [eL] at js NP
    have UP := Lib.hid UP
    clear HP HJ eD eT eL h0
    obtain ⟨At, nt, ct, rfl⟩ := own_slice ho.d (by show T.length * 16 ≤ _; omega)
    obtain ⟨Al, nl', cl, rfl⟩ := own_slice ho.s (by show L.length * 40 ≤ _; omega)
    obtain rfl : nt = T.length := own_n' ho.d
    obtain rfl : nl' = L.length := own_n' ho.s
    have jt : T.length ≤ ct := (GR.Own.rd ho.d (by show T.length * 16 ≤ _; omega)).2.1
    have RT := Lib.hid (GR.Own.rd ho.d (by show T.length * 16 ≤ _; omega)).2.2
    have RL := Lib.hid (GR.Own.rd ho.s (by show L.length * 40 ≤ _; omega)).2.2
    have jl : L.length ≤ cl := (GR.Own.rd ho.s (by show L.length * 40 ≤ _; omega)).2.1
    have F9 := Lib.hid (F8.out.addR (RT.out))
    clear F8
    have F10 := Lib.hid (F9.out.addR (RL.out))
    clear F9
    clear ho RT RL
    have ps_0 : w3.cell? ⟨w.heap.size, 0, none⟩ = some (.slice A s.length c) := (F10.out.blk 6 rfl).cell 0
    have ps_1 : w3.cell? ⟨w.heap.size, 1, none⟩ = some (.slice B l.length d) := (F10.out.blk 6 rfl).cell 1
    have pp_0 : w3.cell? ⟨w.heap.size + 1, 0, none⟩ = some (.slice C ctx.length c2) := (F10.out.blk 5 rfl).cell 0
    have pp_1 : w3.cell? ⟨w.heap.size + 1, 1, none⟩ = some (.int .u32 a) := (F10.out.blk 5 rfl).cell 1
    have pp_2 : w3.cell? ⟨w.heap.size + 1, 2, none⟩ = some (.string v) := (F10.out.blk 5 rfl).cell 2
    have pp_3 : w3.cell? ⟨w.heap.size + 1, 3, none⟩ = some (.bool g) := (F10.out.blk 5 rfl).cell 3
    have ps_lt : w.heap.size < w3.heap.size := (F10.out.blk 6 rfl).lt
    have pp_lt : w.heap.size + 1 < w3.heap.size := (F10.out.blk 5 rfl).lt
    go_wp2_with fail
    obtain ⟨W4, hW4⟩ : ∃ W : World, W = ((w3).alloc (.cells #[.slice At T.length ct, .slice Al L.length cl] 25)).alloc (.cells #[.int .u32 D.a, .int .u64 D.n] 32) := ⟨_, rfl⟩
    rw [← hW4]
    have LW4 : Hid (Below w3.heap.size w3 W4) := Lib.hid (by rw [hW4]; exact (by repeat (first | exact Below.refl _ _ | refine bl_drewN ?_ _ | refine bl_drew ?_ | refine bl_alloc ?_ _)))
    have XW40 : Hid (GR.Blk W4 (w3.heap.size) 25 #[.slice At T.length ct, .slice Al L.length cl]) := Lib.hid (by rw [hW4]; exact (GR.Blk.new _ _ _).alloc _)
    have XW41 : Hid (GR.Blk W4 (w3.heap.size + 1) 32 #[.int .u32 D.a, .int .u64 D.n]) := Lib.hid (by rw [hW4]; exact new_at _ _ _ (by simp))
    clear hW4
    clear ps_0 ps_1 ps_lt pp_0 pp_1 pp_2 pp_3 pp_lt
    have F11 := Lib.hid (F10.out.below LW4.out)
    clear F10
    have F12 := Lib.hid (HS.addB F11.out (g := w3.heap.size) (t := 25) (cs := #[.slice At T.length ct, .slice Al L.length cl]) (XW40.out))
    clear F11
    have F13 := Lib.hid (HS.addB F12.out (g := w3.heap.size + 1) (t := 32) (cs := #[.int .u32 D.a, .int .u64 D.n]) (XW41.out))
    clear F12
    replace BB := Lib.hid (bl_then BB.out LW4.out)
    have pt_0 : W4.cell? ⟨w3.heap.size, 0, none⟩ = some (.slice At T.length ct) := (F13.out.blk 1 rfl).cell 0
    have pt_1 : W4.cell? ⟨w3.heap.size, 1, none⟩ = some (.slice Al L.length cl) := (F13.out.blk 1 rfl).cell 1
    have pd_0 : W4.cell? ⟨w3.heap.size + 1, 0, none⟩ = some (.int .u32 D.a) := (F13.out.blk 0 rfl).cell 0
    have pd_1 : W4.cell? ⟨w3.heap.size + 1, 1, none⟩ = some (.int .u64 D.n) := (F13.out.blk 0 rfl).cell 1
    have ps_0 : W4.cell? ⟨w.heap.size, 0, none⟩ = some (.slice A s.length c) := (F13.out.blk 8 rfl).cell 0
    have ps_1 : W4.cell? ⟨w.heap.size, 1, none⟩ = some (.slice B l.length d) := (F13.out.blk 8 rfl).cell 1
    have pp_0 : W4.cell? ⟨w.heap.size + 1, 0, none⟩ = some (.slice C ctx.length c2) := (F13.out.blk 7 rfl).cell 0
    have pp_1 : W4.cell? ⟨w.heap.size + 1, 1, none⟩ = some (.int .u32 a) := (F13.out.blk 7 rfl).cell 1
    have pp_2 : W4.cell? ⟨w.heap.size + 1, 2, none⟩ = some (.string v) := (F13.out.blk 7 rfl).cell 2
    have pp_3 : W4.cell? ⟨w.heap.size + 1, 3, none⟩ = some (.bool g) := (F13.out.blk 7 rfl).cell 3
    have pt_lt : w3.heap.size < W4.heap.size := (F13.out.blk 1 rfl).lt
    have pd_lt : w3.heap.size + 1 < W4.heap.size := (F13.out.blk 0 rfl).lt
    have ps_lt : w.heap.size < W4.heap.size := (F13.out.blk 8 rfl).lt
    have pp_lt : w.heap.size + 1 < W4.heap.size := (F13.out.blk 7 rfl).lt
    go_wp2_with fail
    clear pt_0 pt_1 pt_lt pd_0 pd_1 pd_lt ps_0 ps_1 ps_lt pp_0 pp_1 pp_2 pp_3 pp_lt
    refine (valid_at _ _ _ _ _ _ T L true _ (F13.out.rd 3 rfl) (F13.out.rd 2 rfl) rfl rfl NP.out.1 NP.out.2 UP.out.valid).mono ?_
    rintro e w5 ⟨rfl, hb⟩
    have F14 := Lib.hid (F13.out.below hb)
    clear F13
    replace BB := Lib.hid (bl_then BB.out hb)
    clear hb
    have qa : (D.a != a) = false := by rw [UP.out.da]; simp
    have ps_0 : w5.cell? ⟨w.heap.size, 0, none⟩ = some (.slice A s.length c) := (F14.out.blk 8 rfl).cell 0
    have ps_1 : w5.cell? ⟨w.heap.size, 1, none⟩ = some (.slice B l.length d) := (F14.out.blk 8 rfl).cell 1
    have pt_0 : w5.cell? ⟨w3.heap.size, 0, none⟩ = some (.slice At T.length ct) := (F14.out.blk 1 rfl).cell 0
    have pt_1 : w5.cell? ⟨w3.heap.size, 1, none⟩ = some (.slice Al L.length cl) := (F14.out.blk 1 rfl).cell 1
    have pd_0 : w5.cell? ⟨w3.heap.size + 1, 0, none⟩ = some (.int .u32 D.a) := (F14.out.blk 0 rfl).cell 0
    have pd_1 : w5.cell? ⟨w3.heap.size + 1, 1, none⟩ = some (.int .u64 D.n) := (F14.out.blk 0 rfl).cell 1
    have pp_0 : w5.cell? ⟨w.heap.size + 1, 0, none⟩ = some (.slice C ctx.length c2) := (F14.out.blk 7 rfl).cell 0
    have pp_1 : w5.cell? ⟨w.heap.size + 1, 1, none⟩ = some (.int .u32 a) := (F14.out.blk 7 rfl).cell 1
    have pp_2 : w5.cell? ⟨w.heap.size + 1, 2, none⟩ = some (.string v) := (F14.out.blk 7 rfl).cell 2
    have pp_3 : w5.cell? ⟨w.heap.size + 1, 3, none⟩ = some (.bool g) := (F14.out.blk 7 rfl).cell 3
    go_wp2_with fail
    clear ps_0 ps_1 pt_0 pt_1 pd_0 pd_1 pp_0 pp_1 pp_2 pp_3
    refine (bel_at2 _ _ _ _ _ _ _ _ _ _ _ _ s T l L true _ (F14.out.rd 6 rfl) (F14.out.rd 5 rfl) (F14.out.rd 3 rfl) (F14.out.rd 2 rfl) rfl rfl rfl rfl hcs jt NS.out NL.out NP.out.1 NP.out.2 UP.out.below).mono ?_
    rintro e w6 ⟨rfl, hb⟩
    have F15 := Lib.hid (F14.out.below hb)
    clear F14
    replace BB := Lib.hid (bl_then BB.out hb)
    clear hb
    have ps_0 : w6.cell? ⟨w.heap.size, 0, none⟩ = some (.slice A s.length c) := (F15.out.blk 8 rfl).cell 0
    have ps_1 : w6.cell? ⟨w.heap.size, 1, none⟩ = some (.slice B l.length d) := (F15.out.blk 8 rfl).cell 1
    have pt_0 : w6.cell? ⟨w3.heap.size, 0, none⟩ = some (.slice At T.length ct) := (F15.out.blk 1 rfl).cell 0
    have pt_1 : w6.cell? ⟨w3.heap.size, 1, none⟩ = some (.slice Al L.length cl) := (F15.out.blk 1 rfl).cell 1
    have pd_0 : w6.cell? ⟨w3.heap.size + 1, 0, none⟩ = some (.int .u32 D.a) := (F15.out.blk 0 rfl).cell 0
    have pd_1 : w6.cell? ⟨w3.heap.size + 1, 1, none⟩ = some (.int .u64 D.n) := (F15.out.blk 0 rfl).cell 1
    have pp_0 : w6.cell? ⟨w.heap.size + 1, 0, none⟩ = some (.slice C ctx.length c2) := (F15.out.blk 7 rfl).cell 0
    have pp_1 : w6.cell? ⟨w.heap.size + 1, 1, none⟩ = some (.int .u32 a) := (F15.out.blk 7 rfl).cell 1
    have pp_2 : w6.cell? ⟨w.heap.size + 1, 2, none⟩ = some (.string v) := (F15.out.blk 7 rfl).cell 2
    have pp_3 : w6.cell? ⟨w.heap.size + 1, 3, none⟩ = some (.bool g) := (F15.out.blk 7 rfl).cell 3
    go_wp2_with fail
    clear ps_0 ps_1 pt_0 pt_1 pd_0 pd_1 pp_0 pp_1 pp_2 pp_3
    refine (dsame_at _ _ _ _ _ _ _ _ _ _ _ _ s T l L false _ (F15.out.rd 6 rfl) (F15.out.rd 5 rfl) (F15.out.rd 3 rfl) (F15.out.rd 2 rfl) rfl rfl rfl rfl UP.out.other).mono ?_
    rintro e w7 ⟨rfl, hb⟩
    have F16 := Lib.hid (F15.out.below hb)
    clear F15
    replace BB := Lib.hid (bl_then BB.out hb)
    clear hb
    have ps_0 : w7.cell? ⟨w.heap.size, 0, none⟩ = some (.slice A s.length c) := (F16.out.blk 8 rfl).cell 0
    have ps_1 : w7.cell? ⟨w.heap.size, 1, none⟩ = some (.slice B l.length d) := (F16.out.blk 8 rfl).cell 1
    have pt_0 : w7.cell? ⟨w3.heap.size, 0, none⟩ = some (.slice At T.length ct) := (F16.out.blk 1 rfl).cell 0
    have pt_1 : w7.cell? ⟨w3.heap.size, 1, none⟩ = some (.slice Al L.length cl) := (F16.out.blk 1 rfl).cell 1
    have pd_0 : w7.cell? ⟨w3.heap.size + 1, 0, none⟩ = some (.int .u32 D.a) := (F16.out.blk 0 rfl).cell 0
    have pd_1 : w7.cell? ⟨w3.heap.size + 1, 1, none⟩ = some (.int .u64 D.n) := (F16.out.blk 0 rfl).cell 1
    have pp_0 : w7.cell? ⟨w.heap.size + 1, 0, none⟩ = some (.slice C ctx.length c2) := (F16.out.blk 7 rfl).cell 0
    have pp_1 : w7.cell? ⟨w.heap.size + 1, 1, none⟩ = some (.int .u32 a) := (F16.out.blk 7 rfl).cell 1
    have pp_2 : w7.cell? ⟨w.heap.size + 1, 2, none⟩ = some (.string v) := (F16.out.blk 7 rfl).cell 2
    have pp_3 : w7.cell? ⟨w.heap.size + 1, 3, none⟩ = some (.bool g) := (F16.out.blk 7 rfl).cell 3
    go_wp2_with fail
    clear ps_0 ps_1 pt_0 pt_1 pd_0 pd_1 pp_0 pp_1 pp_2 pp_3
    refine (covers_is A c s D false UP.out.cov_s _ (F16.out.rd 6 rfl) NS.out UP.out.dn).mono ?_
    rintro e w8 ⟨rfl, hb⟩
    have F17 := Lib.hid (F16.out.below hb)
    clear F16
    replace BB := Lib.hid (bl_then BB.out hb)
    clear hb
    have ps_0 : w8.cell? ⟨w.heap.size, 0, none⟩ = some (.slice A s.length c) := (F17.out.blk 8 rfl).cell 0
    have ps_1 : w8.cell? ⟨w.heap.size, 1, none⟩ = some (.slice B l.length d) := (F17.out.blk 8 rfl).cell 1
    have pt_0 : w8.cell? ⟨w3.heap.size, 0, none⟩ = some (.slice At T.length ct) := (F17.out.blk 1 rfl).cell 0
    have pt_1 : w8.cell? ⟨w3.heap.size, 1, none⟩ = some (.slice Al L.length cl) := (F17.out.blk 1 rfl).cell 1
    have pd_0 : w8.cell? ⟨w3.heap.size + 1, 0, none⟩ = some (.int .u32 D.a) := (F17.out.blk 0 rfl).cell 0
    have pd_1 : w8.cell? ⟨w3.heap.size + 1, 1, none⟩ = some (.int .u64 D.n) := (F17.out.blk 0 rfl).cell 1
    have pp_0 : w8.cell? ⟨w.heap.size + 1, 0, none⟩ = some (.slice C ctx.length c2) := (F17.out.blk 7 rfl).cell 0
    have pp_1 : w8.cell? ⟨w.heap.size + 1, 1, none⟩ = some (.int .u32 a) := (F17.out.blk 7 rfl).cell 1
    have pp_2 : w8.cell? ⟨w.heap.size + 1, 2, none⟩ = some (.string v) := (F17.out.blk 7 rfl).cell 2
    have pp_3 : w8.cell? ⟨w.heap.size + 1, 3, none⟩ = some (.bool g) := (F17.out.blk 7 rfl).cell 3
    go_wp2_with fail
    clear ps_0 ps_1 pt_0 pt_1 pd_0 pd_1 pp_0 pp_1 pp_2 pp_3
    refine (covers_is C c2 ctx D false UP.out.cov_c _ (F17.out.rd 4 rfl) NC.out UP.out.dn).mono ?_
    rintro e w9 ⟨rfl, hb⟩
    have F18 := Lib.hid (F17.out.below hb)
    clear F17
    replace BB := Lib.hid (bl_then BB.out hb)
    clear hb
    have ps_0 : w9.cell? ⟨w.heap.size, 0, none⟩ = some (.slice A s.length c) := (F18.out.blk 8 rfl).cell 0
    have ps_1 : w9.cell? ⟨w.heap.size, 1, none⟩ = some (.slice B l.length d) := (F18.out.blk 8 rfl).cell 1
    have pt_0 : w9.cell? ⟨w3.heap.size, 0, none⟩ = some (.slice At T.length ct) := (F18.out.blk 1 rfl).cell 0
    have pt_1 : w9.cell? ⟨w3.heap.size, 1, none⟩ = some (.slice Al L.length cl) := (F18.out.blk 1 rfl).cell 1
    have pd_0 : w9.cell? ⟨w3.heap.size + 1, 0, none⟩ = some (.int .u32 D.a) := (F18.out.blk 0 rfl).cell 0
    have pd_1 : w9.cell? ⟨w3.heap.size + 1, 1, none⟩ = some (.int .u64 D.n) := (F18.out.blk 0 rfl).cell 1
    have pp_0 : w9.cell? ⟨w.heap.size + 1, 0, none⟩ = some (.slice C ctx.length c2) := (F18.out.blk 7 rfl).cell 0
    have pp_1 : w9.cell? ⟨w.heap.size + 1, 1, none⟩ = some (.int .u32 a) := (F18.out.blk 7 rfl).cell 1
    have pp_2 : w9.cell? ⟨w.heap.size + 1, 2, none⟩ = some (.string v) := (F18.out.blk 7 rfl).cell 2
    have pp_3 : w9.cell? ⟨w.heap.size + 1, 3, none⟩ = some (.bool g) := (F18.out.blk 7 rfl).cell 3
    go_wp2_with fail
    clear ps_0 ps_1 pt_0 pt_1 pd_0 pd_1 pp_0 pp_1 pp_2 pp_3
    refine (covers_is At ct T D true UP.out.cov_d _ (F18.out.rd 3 rfl) NP.out.1 UP.out.dn).mono ?_
    rintro e w10 ⟨rfl, hb⟩
    have F19 := Lib.hid (F18.out.below hb)
    clear F18
    replace BB := Lib.hid (bl_then BB.out hb)
    clear hb
    have ps_0 : w10.cell? ⟨w.heap.size, 0, none⟩ = some (.slice A s.length c) := (F19.out.blk 8 rfl).cell 0
    have ps_1 : w10.cell? ⟨w.heap.size, 1, none⟩ = some (.slice B l.length d) := (F19.out.blk 8 rfl).cell 1
    have pt_0 : w10.cell? ⟨w3.heap.size, 0, none⟩ = some (.slice At T.length ct) := (F19.out.blk 1 rfl).cell 0
    have pt_1 : w10.cell? ⟨w3.heap.size, 1, none⟩ = some (.slice Al L.length cl) := (F19.out.blk 1 rfl).cell 1
    have pd_0 : w10.cell? ⟨w3.heap.size + 1, 0, none⟩ = some (.int .u32 D.a) := (F19.out.blk 0 rfl).cell 0
    have pd_1 : w10.cell? ⟨w3.heap.size + 1, 1, none⟩ = some (.int .u64 D.n) := (F19.out.blk 0 rfl).cell 1
    have pp_0 : w10.cell? ⟨w.heap.size + 1, 0, none⟩ = some (.slice C ctx.length c2) := (F19.out.blk 7 rfl).cell 0
    have pp_1 : w10.cell? ⟨w.heap.size + 1, 1, none⟩ = some (.int .u32 a) := (F19.out.blk 7 rfl).cell 1
    have pp_2 : w10.cell? ⟨w.heap.size + 1, 2, none⟩ = some (.string v) := (F19.out.blk 7 rfl).cell 2
    have pp_3 : w10.cell? ⟨w.heap.size + 1, 3, none⟩ = some (.bool g) := (F19.out.blk 7 rfl).cell 3
    go_wp2_with fail
    clear ps_0 ps_1 pt_0 pt_1 pd_0 pd_1 pp_0 pp_1 pp_2 pp_3
    refine (vbelow_at _ _ _ _ _ _ ctx T true _ (F19.out.rd 4 rfl) (F19.out.rd 3 rfl) rfl rfl hcc jt NC.out NP.out.1 UP.out.ctxb).mono ?_
    rintro e w11 ⟨rfl, hb⟩
    have F20 := Lib.hid (F19.out.below hb)
    clear F19
    replace BB := Lib.hid (bl_then BB.out hb)
    clear hb
    clear qa
    have ps_0 : w11.cell? ⟨w.heap.size, 0, none⟩ = some (.slice A s.length c) := (F20.out.blk 8 rfl).cell 0
    have ps_1 : w11.cell? ⟨w.heap.size, 1, none⟩ = some (.slice B l.length d) := (F20.out.blk 8 rfl).cell 1
    go_wp2
    clear ps_0 ps_1
    have h64 : l.length ≤ 64 := (sta_ok UP.out.sta).2.1
    have HB11 := Lib.hid (bl_then LW.out BB.out)
    go_loopw [8, 9] (fun v0 i w' => ∃ (k : Nat) (u : Value) (acc : List Sib), u = v0 ∧ i = .int .i64 k ∧ k ≤ l.length ∧ Hid (acc = keepS ctx (l.take k)) ∧ Hid (GR.Own sibK w' w11.heap.size u acc) ∧ Hid (Below w11.heap.size w11 w')) (fun _ i _ => l.length - (intOf i).toNat)
    case atStart => exact ⟨0, .slice none 0 0, [], rfl, rfl, Nat.zero_le _, Lib.hid (by simp [keepS]), Lib.hid (GR.Own.nil _ _ _), Lib.hid (by repeat (first | exact Below.refl _ _ | refine bl_drewN ?_ _ | refine bl_drew ?_ | refine bl_alloc ?_ _))⟩
    case round =>
      obtain ⟨k, u, acc, rfl, rfl, hk, hacc, ho, hb⟩ := hrel
      have hbs : w11.heap.size ≤ wr.heap.size := hb.out.size
      by_cases hlt : k < l.length
      · have i0 : (0 : Int) ≤ (k : Int) := by omega
        have i1 : (k : Int) < (l.length : Int) := by omega
        have hln : 0 ≤ l[k].d.n := NL.out _ (List.getElem_mem hlt)
        have F21 := Lib.hid (F20.out.below hb.out)
        clear F20
        obtain ⟨ad, eB, _, x0, x1, x2, x3⟩ := sib_at (F21.out.rd 5 rfl) k hlt
        have ps_0 : wr.cell? ⟨w.heap.size, 0, none⟩ = some (.slice A s.length c) := (F21.out.blk 8 rfl).cell 0
        have ps_1 : wr.cell? ⟨w.heap.size, 1, none⟩ = some (.slice B l.length d) := (F21.out.blk 8 rfl).cell 1
        have pp_0 : wr.cell? ⟨w.heap.size + 1, 0, none⟩ = some (.slice C ctx.length c2) := (F21.out.blk 7 rfl).cell 0
        have pp_1 : wr.cell? ⟨w.heap.size + 1, 1, none⟩ = some (.int .u32 a) := (F21.out.blk 7 rfl).cell 1
        have pp_2 : wr.cell? ⟨w.heap.size + 1, 2, none⟩ = some (.string v) := (F21.out.blk 7 rfl).cell 2
        have pp_3 : wr.cell? ⟨w.heap.size + 1, 3, none⟩ = some (.bool g) := (F21.out.blk 7 rfl).cell 3
        rw [eB] at ps_1
        have EB := Lib.hid eB
        clear eB
        have ops1 := over_cell ps_1
        have opp0 := over_cell pp_0
        have ox0 := over_cell x0
        have ox1 := over_cell x1
        clear pp_0 pp_1 pp_2 pp_3 x0 x1 x2 x3
        rcases hcv : cov ctx l[k].d with _ | _
        · skip
          go_wp2
          clear ps_0 ps_1
          refine over_region (W := wr) (by kernel_rfl) (by kernel_rfl) (by repeat (first | exact Below.refl _ _ | refine bl_drewN ?_ _ | refine bl_drew ?_ | refine bl_alloc ?_ _)) ?_
          repeat (go_big_quiet_step (refine over_of (covers_is C c2 ctx l[k].d false hcv _ (GR.Rd.below (F21.out.rd 4 rfl) (Over.h _)) NC.out hln)))
          refine wpQuiet_nil ?_
          intro _ hx_
          obtain ⟨x_, hx_⟩ := hx_
          subst hx_
          obtain ⟨w12, hb12⟩ := x_
          dsimp only
          have O12 := Lib.hid (ho.out.below hb12)
          have B12 := Lib.hid (bl_then hb.out hb12)
          have b12 : w11.heap.size ≤ w12.heap.size := B12.out.size
          clear ops1 opp0 ox0 ox1
          have F22 := Lib.hid (F21.out.below hb12)
          clear F21
          have HK := Lib.hid (keep_snoc_no hlt hcv)
          have hal : acc.length ≤ 64 := by rw [hacc.out]; exact Nat.le_trans (keep_len _ _) (by simp; omega)
          obtain ⟨bd, eB2, _, y0, y1, y2, y3⟩ := sib_at (F22.out.rd 5 rfl) k hlt
          obtain rfl : ad = bd := Option.some.inj (EB.out.symm.trans eB2)
          clear hcv hb12 eB2
          have ps_0 : w12.cell? ⟨w.heap.size, 0, none⟩ = some (.slice A s.length c) := (F22.out.blk 8 rfl).cell 0
          have ps_1 : w12.cell? ⟨w.heap.size, 1, none⟩ = some (.slice B l.length d) := (F22.out.blk 8 rfl).cell 1
          rw [EB.out] at ps_1
          go_wp2_with (
            at_builtin
            refine GR.app_all (K := sibK) rfl (.tmp 107) (.tmp 113) _ rfl Try.underlying23 hj0 jz0 jz1 jz2 rfl w11.heap.size _ acc rfl (O12.out.alloc _) _ 1 1 [l[k]] rfl rfl (GR.rd_new (K := sibK) l[k] rfl (by show 40 ≤ 140737488355328; omega)) (by show (acc.length + 1) * 40 ≤ _; omega) (Nat.le_trans b12 (by simp)) ?_
            intro v13 w13 ho13 hg13 hat13
            have O13 := Lib.hid ho13
            have B13 := Lib.hid (B12.out.trans (Below.grown (B := w11.heap.size) (Below.refl w11.heap.size w12 |>.alloc b12 _) hg13 (Nat.le_trans b12 (by simp)) (fun b hb => (O12.out.lt b hb).1)))
            clear ho13 hg13 hat13)
          go_roundw
          case rel => exact ⟨k + 1, v13, acc ++ [l[k]], rfl, by go_num, by omega, Lib.hid (by rw [HK.out, ← hacc.out]), O13, B13⟩
          case measure => simp [intOf]; omega
        · skip
          go_wp2
          clear ps_0 ps_1
          refine over_region (W := wr) (by kernel_rfl) (by kernel_rfl) (by repeat (first | exact Below.refl _ _ | refine bl_drewN ?_ _ | refine bl_drew ?_ | refine bl_alloc ?_ _)) ?_
          repeat (go_big_quiet_step (refine over_of (covers_is C c2 ctx l[k].d true hcv _ (GR.Rd.below (F21.out.rd 4 rfl) (Over.h _)) NC.out hln)))
          refine wpQuiet_nil ?_
          intro _ hx_
          obtain ⟨x_, hx_⟩ := hx_
          subst hx_
          obtain ⟨w12, hb12⟩ := x_
          dsimp only
          have O12 := Lib.hid (ho.out.below hb12)
          have B12 := Lib.hid (bl_then hb.out hb12)
          have b12 : w11.heap.size ≤ w12.heap.size := B12.out.size
          clear ops1 opp0 ox0 ox1
          have HK := Lib.hid (keep_snoc_yes hlt hcv)
          clear hcv hb12
          go_wp2
          go_roundw
          case rel => exact ⟨k + 1, u, acc, rfl, by go_num, by omega, Lib.hid (by rw [HK.out]; exact hacc.out), O12, B12⟩
          case measure => simp [intOf]; omega
      · obtain rfl : k = l.length := by omega
        have HK : Hid (acc = keepS ctx l) := Lib.hid (by rw [hacc.out, List.take_length])
        have hal : acc.length ≤ 64 := by rw [HK.out]; exact Nat.le_trans (keep_len _ _) h64
        clear hacc
        have F23 := Lib.hid (F20.out.below hb.out)
        clear F20
        replace BB := Lib.hid (bl_then BB.out hb.out)
        obtain ⟨Aw, nw, cw, rfl⟩ := own_slice ho.out (by show acc.length * 40 ≤ _; omega)
        obtain rfl : nw = acc.length := own_n' ho.out
        have RW := Lib.hid (GR.Own.rd ho.out (by show acc.length * 40 ≤ _; omega)).2.2
        have F24 := Lib.hid (F23.out.addR (RW.out))
        clear F23
        have RO := Lib.hid (road acc ⟨D, g, v⟩ L (by rw [HK.out]; exact UP.out.hL) (by rw [HK.out]; exact UP.out.hn))
        obtain ⟨p, hp, hLn, r1, r2, r3⟩ := RO.out
        have R1 := Lib.hid r1
        have R2 := Lib.hid r2
        have R3 := Lib.hid r3
        have HLn := Lib.hid hLn
        clear r1 r2 r3 RO ho hb hbs RW hLn
        have ps_0 : wr.cell? ⟨w.heap.size, 0, none⟩ = some (.slice A s.length c) := (F24.out.blk 9 rfl).cell 0
        have ps_1 : wr.cell? ⟨w.heap.size, 1, none⟩ = some (.slice B l.length d) := (F24.out.blk 9 rfl).cell 1
        have pt_0 : wr.cell? ⟨w3.heap.size, 0, none⟩ = some (.slice At T.length ct) := (F24.out.blk 2 rfl).cell 0
        have pt_1 : wr.cell? ⟨w3.heap.size, 1, none⟩ = some (.slice Al L.length cl) := (F24.out.blk 2 rfl).cell 1
        go_wp2
        clear ps_0 ps_1 pt_0 pt_1
        go_loopw [10, 11, 12] (fun kk pp ii w' => ∃ i : Nat, ii = .int .i64 i ∧ i ≤ L.length ∧ ((i ≤ p ∧ kk = .int .i64 i ∧ pp = .int .i64 0) ∨ (p < i ∧ kk = .int .i64 ((i - 1 : Nat) : Int) ∧ pp = .int .i64 1)) ∧ Hid (Below wr.heap.size wr w')) (fun _ _ ii _ => L.length - (intOf ii).toNat)
        case atStart => exact ⟨0, rfl, Nat.zero_le _, .inl ⟨Nat.zero_le _, rfl, rfl⟩, Lib.hid (by repeat (first | exact Below.refl _ _ | refine bl_drewN ?_ _ | refine bl_drew ?_ | refine bl_alloc ?_ _))⟩
        case round =>
          rename_i wr0
          obtain ⟨i, rfl, hi, hcase, hb⟩ := hrel
          by_cases hlt : i < L.length
          · have i0 : (0 : Int) ≤ (i : Int) := by omega
            have i1 : (i : Int) < (L.length : Int) := by omega
            have F25 := Lib.hid (F24.out.below hb.out)
            clear F24
            obtain ⟨ad, eB, _, x0, x1, x2, x3⟩ := sib_at (F25.out.rd 3 rfl) i hlt
            have pt_0 : wr.cell? ⟨w3.heap.size, 0, none⟩ = some (.slice At T.length ct) := (F25.out.blk 2 rfl).cell 0
            have pt_1 : wr.cell? ⟨w3.heap.size, 1, none⟩ = some (.slice Al L.length cl) := (F25.out.blk 2 rfl).cell 1
            have pd_0 : wr.cell? ⟨w3.heap.size + 1, 0, none⟩ = some (.int .u32 D.a) := (F25.out.blk 1 rfl).cell 0
            have pd_1 : wr.cell? ⟨w3.heap.size + 1, 1, none⟩ = some (.int .u64 D.n) := (F25.out.blk 1 rfl).cell 1
            have pp_0 : wr.cell? ⟨w.heap.size + 1, 0, none⟩ = some (.slice C ctx.length c2) := (F25.out.blk 8 rfl).cell 0
            have pp_1 : wr.cell? ⟨w.heap.size + 1, 1, none⟩ = some (.int .u32 a) := (F25.out.blk 8 rfl).cell 1
            have pp_2 : wr.cell? ⟨w.heap.size + 1, 2, none⟩ = some (.string v) := (F25.out.blk 8 rfl).cell 2
            have pp_3 : wr.cell? ⟨w.heap.size + 1, 3, none⟩ = some (.bool g) := (F25.out.blk 8 rfl).cell 3
            rw [eB] at pt_1
            clear eB
            have opt1 := over_cell pt_1
            have opd0 := over_cell pd_0
            have opd1 := over_cell pd_1
            have opp2 := over_cell pp_2
            have opp3 := over_cell pp_3
            have ox0 := over_cell x0
            have ox1 := over_cell x1
            have ox2 := over_cell x2
            have ox3 := over_cell x3
            clear pd_0 pd_1 pp_0 pp_1 pp_2 pp_3 x0 x1 x2 x3
            rcases Nat.lt_trichotomy i p with hip | hip | hip
            · obtain ⟨_, rfl, rfl⟩ : i ≤ p ∧ _ := by rcases hcase with h | h; exact h; omega
              obtain ⟨hk2, hLe, hLd⟩ := R1.out i hlt hip
              have q1 : dEq L[i].d.a L[i].d.n D.a D.n = false := by rw [Bool.eq_false_iff]; exact fun h => hLd (dEq_iff.1 h)
              have q2 : sEq L[i].d.a L[i].d.n L[i].gone L[i].v acc[i].d.a acc[i].d.n acc[i].gone acc[i].v = true := sEq_iff.2 hLe
              have k0 : (0 : Int) ≤ ((i : Nat) : Int) := by omega
              have k1 : ((i : Nat) : Int) < (acc.length : Int) := by omega
              have k2 : decide ((acc.length : Int) ≤ ((i : Nat) : Int)) = false := by simp; omega
              have k3 : decide (acc.length ≤ i) = false := by simp; omega
              clear hLe hLd
              obtain ⟨bd, eB, _, y0, y1, y2, y3⟩ := sib_at (F25.out.rd 0 rfl) (i) hk2
              subst eB
              have oy0 := over_cell y0
              have oy1 := over_cell y1
              have oy2 := over_cell y2
              have oy3 := over_cell y3
              clear y0 y1 y2 y3
              go_wp2
              refine over_region (W := wr) (by kernel_rfl) (by kernel_rfl) (by repeat (first | exact Below.refl _ _ | refine bl_drewN ?_ _ | refine bl_drew ?_ | refine bl_alloc ?_ _)) ?_
              repeat (go_big_quiet_step (fail))
              refine wpQuiet_nil ?_
              intro _ hx_
              obtain ⟨x_, hx_⟩ := hx_
              subst hx_
              obtain ⟨w20, hb20⟩ := x_
              dsimp only
              go_wp2
              refine over_region (W := wr) (by kernel_rfl) (by kernel_rfl) (by repeat (first | exact hb20 | refine bl_drewN ?_ _ | refine bl_drew ?_ | refine bl_alloc ?_ _)) ?_
              repeat (go_big_quiet_step (fail))
              refine wpQuiet_nil ?_
              intro _ hx_
              obtain ⟨x_, hx_⟩ := hx_
              subst hx_
              obtain ⟨w21, hb21⟩ := x_
              dsimp only
              have B21 := Lib.hid (bl_then hb.out hb21)
              clear hb20 hb21
              go_wp2
              go_roundw
              case rel => exact ⟨i + 1, by go_num, by omega, .inl ⟨by omega, by go_num, rfl⟩, B21⟩
              case measure => simp [intOf]; omega
            · obtain ⟨_, rfl, rfl⟩ : i ≤ p ∧ _ := by rcases hcase with h | h; exact h; omega
              subst hip
              have hLe : L[i] = ⟨D, g, v⟩ := R2.out hlt
              have q1 : dEq L[i].d.a L[i].d.n D.a D.n = true := by rw [hLe]; exact dEq_iff.2 rfl
              have q2 : sEq L[i].d.a L[i].d.n L[i].gone L[i].v D.a D.n g v = true := by rw [hLe]; exact sEq_iff (x := ⟨D, g, v⟩) (y := ⟨D, g, v⟩) |>.2 rfl
              clear hLe
              go_wp2
              refine over_region (W := wr) (by kernel_rfl) (by kernel_rfl) (by repeat (first | exact Below.refl _ _ | refine bl_drewN ?_ _ | refine bl_drew ?_ | refine bl_alloc ?_ _)) ?_
              repeat (go_big_quiet_step (fail))
              refine wpQuiet_nil ?_
              intro _ hx_
              obtain ⟨x_, hx_⟩ := hx_
              subst hx_
              obtain ⟨w20, hb20⟩ := x_
              dsimp only
              go_wp2
              refine over_region (W := wr) (by kernel_rfl) (by kernel_rfl) (by repeat (first | exact hb20 | refine bl_drewN ?_ _ | refine bl_drew ?_ | refine bl_alloc ?_ _)) ?_
              repeat (go_big_quiet_step (fail))
              refine wpQuiet_nil ?_
              intro _ hx_
              obtain ⟨x_, hx_⟩ := hx_
              subst hx_
              obtain ⟨w21, hb21⟩ := x_
              dsimp only
              have B21 := Lib.hid (bl_then hb.out hb21)
              clear hb20 hb21
              go_wp2
              go_roundw
              case rel => exact ⟨i + 1, by go_num, by omega, .inr ⟨by omega, by go_num, rfl⟩, B21⟩
              case measure => simp [intOf]; omega
            · obtain ⟨_, rfl, rfl⟩ : p < i ∧ _ := by rcases hcase with h | h; omega; exact h
              obtain ⟨hk2, hLe, hLd⟩ := R3.out i hlt hip
              have q1 : dEq L[i].d.a L[i].d.n D.a D.n = false := by rw [Bool.eq_false_iff]; exact fun h => hLd (dEq_iff.1 h)
              have q2 : sEq L[i].d.a L[i].d.n L[i].gone L[i].v acc[i - 1].d.a acc[i - 1].d.n acc[i - 1].gone acc[i - 1].v = true := sEq_iff.2 hLe
              have k0 : (0 : Int) ≤ ((i - 1 : Nat) : Int) := by omega
              have k1 : ((i - 1 : Nat) : Int) < (acc.length : Int) := by omega
              have k2 : decide ((acc.length : Int) ≤ ((i - 1 : Nat) : Int)) = false := by simp; omega
              have k3 : decide (acc.length ≤ i - 1) = false := by simp; omega
              clear hLe hLd
              obtain ⟨bd, eB, _, y0, y1, y2, y3⟩ := sib_at (F25.out.rd 0 rfl) (i - 1) hk2
              subst eB
              have oy0 := over_cell y0
              have oy1 := over_cell y1
              have oy2 := over_cell y2
              have oy3 := over_cell y3
              clear y0 y1 y2 y3
              go_wp2
              refine over_region (W := wr) (by kernel_rfl) (by kernel_rfl) (by repeat (first | exact Below.refl _ _ | refine bl_drewN ?_ _ | refine bl_drew ?_ | refine bl_alloc ?_ _)) ?_
              repeat (go_big_quiet_step (fail))
              refine wpQuiet_nil ?_
              intro _ hx_
              obtain ⟨x_, hx_⟩ := hx_
              subst hx_
              obtain ⟨w20, hb20⟩ := x_
              dsimp only
              go_wp2
              refine over_region (W := wr) (by kernel_rfl) (by kernel_rfl) (by repeat (first | exact hb20 | refine bl_drewN ?_ _ | refine bl_drew ?_ | refine bl_alloc ?_ _)) ?_
              repeat (go_big_quiet_step (fail))
              refine wpQuiet_nil ?_
              intro _ hx_
              obtain ⟨x_, hx_⟩ := hx_
              subst hx_
              obtain ⟨w21, hb21⟩ := x_
              dsimp only
              have B21 := Lib.hid (bl_then hb.out hb21)
              clear hb20 hb21
              go_wp2
              go_roundw
              case rel => exact ⟨i + 1, by go_num, by omega, .inr ⟨by omega, by go_num, rfl⟩, B21⟩
              case measure => simp [intOf]; omega
          · obtain rfl : i = L.length := by omega
            obtain ⟨_, rfl, rfl⟩ : p < L.length ∧ _ := by
              have := HLn.out
              rcases hcase with h | h
              · omega
              · exact h
            have F26 := Lib.hid (F24.out.below hb.out)
            clear F24
            have pt_0 : wr.cell? ⟨w3.heap.size, 0, none⟩ = some (.slice At T.length ct) := (F26.out.blk 2 rfl).cell 0
            have pt_1 : wr.cell? ⟨w3.heap.size, 1, none⟩ = some (.slice Al L.length cl) := (F26.out.blk 2 rfl).cell 1
            have hl1 : L.length - 1 = acc.length := by have := HLn.out; omega
            rw [hl1]
            clear hl1
            go_wp2
            go_ret
            exact ⟨rfl, bl_then LW.out (bl_then BB.out (by repeat (first | exact hb.out | refine bl_drewN ?_ _ | refine bl_drew ?_ | refine bl_alloc ?_ _)))⟩
  · have HN := putNo (s := s) (l := l) (ctx := ctx) (a := a) (v := v) (g := g) rfl h0
    rw [HN.hd]
    rw [HN.ha, HN.hl] at ho
    obtain ⟨At, nt, ct, rfl⟩ := own_slice ho.d (by simp)
    obtain ⟨Al, nl', cl, rfl⟩ := own_slice ho.s (by simp)
    obtain rfl : nt = 0 := own_n' ho.d
    obtain rfl : nl' = 0 := own_n' ho.s
    clear HN ho
    generalize hr : putE s l ctx a v g = r at h0 ⊢
    have hne : (r != 0) = true := by simpa using h0
    have q0 : dEq 0 0 0 0 = true := by simp [dEq]
    clear hr
    go_wp2
    go_ret
    exact ⟨rfl, bl_then LW.out (by repeat (first | exact BB.out | refine bl_drewN ?_ _ | refine bl_drew ?_ | refine bl_alloc ?_ _))⟩
end Go.Proofs.Ytlmnmlehnigfdaa
