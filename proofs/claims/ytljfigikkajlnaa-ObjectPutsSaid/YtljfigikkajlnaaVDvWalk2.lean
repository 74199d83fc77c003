/- DERIVED. The closure of the program's Below; its walk through two vectors. -/
import Derived.Test.YtljfigikkajlnaaVm11
namespace Go.Proofs.Ytljfigikkajlnaa
open Go.RowKit
set_option linter.unusedVariables false
set_option linter.unusedSimpArgs false
attribute [local go_sem high] eqD
attribute [local irreducible] wpList Code.wp
/-- The address of a slice's rest behind its first dot. -/
def tl (ad : Addr) (c : Nat) : Addr := if c = 1 then ad else ad.add 2
set_option maxRecDepth 100000 in
theorem tail_run (ad : Addr) (n c : Nat) (hc : n + 1 ≤ c) (W : World) : (Instr.slice 22 (.slice (some ad) (n + 1) c) (some (.int .i64 1)) none none).run Try.prog W = .ok (.slice (some (tl ad c)) n (c - 1)) W := by
  have hs : Try.prog.underlying 22 = some (.slice (Try.prog.elem 22)) := by kernel_rfl
  have h2 : (sizeOf (Try.prog.elem 22)).run Try.prog W = .ok 2 W := by kernel_rfl
  rw [run_slice_l (P := Try.prog) W 22 (some ad) (n + 1) c hs .i64 1 (by omega) (by omega), h2]
  simp only [Result.andThen_ok, sliced]
  congr 2
  show (if c = 1 then some ad else some (ad.add 2)) = some (tl ad c)
  unfold tl
  split <;> rfl
set_option maxRecDepth 100000 in
theorem tail_at (ad : Addr) (n c : Nat) (hc : n + 1 ≤ c) (W : World) : (Instr.sliceAt 22 (.slice (some ad) (n + 1) c) (some (.int .i64 1)) none none).run Try.prog W = .ok (.slice (some (tl ad c)) n (c - 1)) W := by
  have hs : Try.prog.underlying 22 = some (.slice (Try.prog.elem 22)) := by kernel_rfl
  rw [run_sliceAt_slice (P := Try.prog) W 22 _ _ _ _ hs]
  exact tail_run ad n c hc W
theorem rd_tail {w : World} {ad : Addr} {x : Dot} {l : List Dot} {c : Nat} (h : GR.Rd dotK w (some ad) (x :: l)) (hc : l.length + 1 ≤ c) : GR.Rd dotK w (some (tl ad c)) l :=
  h.drop 1 c hc (by simp) (tl ad c) (fun h1 => by unfold tl; rw [if_neg (by omega)]; rfl)
def lenV : Value → Nat
  | .slice _ n _ => n
  | _ => 0
theorem actor_any (x : Dot) (w : World) : Calls Try.prog 111 #[.agg #[.int .u32 x.a, .int .u64 x.n]] w fun e w' => e = .returned (.int .u32 x.a) ∧ Below w.heap.size w w' := by
  go_enter Try.func111, Try.ntmps111
  go_wp2
  go_ret
  exact ⟨rfl, (by repeat (first | exact Below.refl _ _ | refine bl_drewN ?_ _ | refine bl_drew ?_ | refine bl_alloc ?_ _))⟩
set_option maxRecDepth 100000 in
set_option maxHeartbeats 12800000 in
theorem walkMax_any (w0 : World) (g : Nat) (A B : Option Addr) (c d : Nat) (a b : List Dot) (w : World) (Inv : List Dot → List Dot → World → Prop) (ha : GR.Rd dotK w0 A a) (hb : GR.Rd dotK w0 B b) (hca : a.length ≤ c) (hcb : b.length ≤ d)
    (hI0 : ∀ a1 b1 w, Inv a1 b1 w → Below w0.heap.size w0 w) (hI1 : ∀ a1 b1 w w', Inv a1 b1 w → Below w.heap.size w w' → Inv a1 b1 w')
    (hL : ∀ (p : Addr) (x : Dot) (a1 b1 : List Dot) (w : World), p.block < w0.heap.size → w.cell? p = some (.int .u32 x.a) → w.cell? ⟨p.block, p.off + 1, none⟩ = some (.int .u64 x.n) → (b1 = [] ∨ ∃ y b2, b1 = y :: b2 ∧ x.a < y.a) → Inv (x :: a1) b1 w →
      Calls Try.prog 112 #[.pointer (some p), .pointer none, .pointer (some ⟨g, 0, none⟩)] w fun e w' => e = .returned (.tuple #[]) ∧ Inv a1 b1 w')
    (hR : ∀ (p : Addr) (y : Dot) (a1 b1 : List Dot) (w : World), p.block < w0.heap.size → w.cell? p = some (.int .u32 y.a) → w.cell? ⟨p.block, p.off + 1, none⟩ = some (.int .u64 y.n) → (a1 = [] ∨ ∃ x a2, a1 = x :: a2 ∧ y.a < x.a) → Inv a1 (y :: b1) w →
      Calls Try.prog 112 #[.pointer none, .pointer (some p), .pointer (some ⟨g, 0, none⟩)] w fun e w' => e = .returned (.tuple #[]) ∧ Inv a1 b1 w')
    (hB : ∀ (p q : Addr) (x y : Dot) (a1 b1 : List Dot) (w : World), p.block < w0.heap.size → w.cell? p = some (.int .u32 x.a) → w.cell? ⟨p.block, p.off + 1, none⟩ = some (.int .u64 x.n) → q.block < w0.heap.size → w.cell? q = some (.int .u32 y.a) → w.cell? ⟨q.block, q.off + 1, none⟩ = some (.int .u64 y.n) → x.a = y.a → Inv (x :: a1) (y :: b1) w →
      Calls Try.prog 112 #[.pointer (some p), .pointer (some q), .pointer (some ⟨g, 0, none⟩)] w fun e w' => e = .returned (.tuple #[]) ∧ Inv a1 b1 w')
    (hi : Inv a b w) :
    Calls Try.prog 110 #[.slice A a.length c, .slice B b.length d, .func (.func 111) #[] #[], .func (.func 112) #[] #[.pointer (some ⟨g, 0, none⟩)]] w
      fun e w' => e = .returned (.tuple #[]) ∧ Inv [] [] w' := by
  have hma : a.length * 16 ≤ 140737488355328 := ha.max
  have hmb : b.length * 16 ≤ 140737488355328 := hb.max
  have RA := Lib.hid ha
  have RB := Lib.hid hb
  have HI0 := Lib.hid hI0
  have HL := Lib.hid hL
  have HRR := Lib.hid hR
  have HB := Lib.hid hB
  have HI := Lib.hid hi
  have I1 := Lib.hid hI1
  clear ha hb hI0 hL hR hB hi hI1
  go_enter Try.func110, Try.ntmps110
  go_wp2
  go_loopw [0, 1] (fun s0 s1 w' => ∃ (A1 B1 : Option Addr) (cx cy : Nat) (a1 b1 : List Dot), s0 = .slice A1 a1.length cx ∧ s1 = .slice B1 b1.length cy ∧ a1.length ≤ cx ∧ b1.length ≤ cy ∧ Hid (GR.Rd dotK w0 A1 a1) ∧ Hid (GR.Rd dotK w0 B1 b1) ∧ Hid (Inv a1 b1 w')) (fun s0 s1 _ => lenV s0 + lenV s1)
  case atStart => exact ⟨A, B, c, d, a, b, rfl, rfl, hca, hcb, RA, RB, HI⟩
  case round =>
    clear HI hca hcb
    obtain ⟨A1, B1, cx, cy, a1, b1, rfl, rfl, hcx, hcy, Rx, Ry, HI⟩ := hrel
    have BI := Lib.hid (HI0.out _ _ _ HI.out)
    have HR := Lib.hid (Below.refl wr.heap.size wr)
    have mx : a1.length * 16 ≤ 140737488355328 := Rx.out.max
    have my : b1.length * 16 ≤ 140737488355328 := Ry.out.max
    rcases a1 with _ | ⟨x, a2⟩
    · rcases b1 with _ | ⟨y, b2⟩
      · go_wp2
        go_end0
        exact ⟨rfl, HI.out⟩
      ·
        replace hcy : b2.length + 1 ≤ cy := by simpa using hcy
        obtain ⟨py, e_, hby, k0_, k1_⟩ := dot_head Ry.out (by simp)
        subst e_
        simp only [List.getElem_cons_zero] at k0_ k1_
        have cy0 := (BI.out.cell hby).trans k0_
        have cy1 := (BI.out.cell (p := ⟨py.block, py.off + 1, none⟩) hby).trans k1_
        have Ky0 := Lib.hid cy0
        have Ky1 := Lib.hid cy1
        have sy1 := tail_run py b2.length cy hcy
        have sy2 := tail_at py b2.length cy hcy
        have Ty := Lib.hid (rd_tail Ry.out hcy)
        have ly1 : decide (0 < ((y :: b2).length : Int)) = true := by simp <;> omega
        have ly2 : decide (0 < (y :: b2).length) = true := by simp
        have ly3 : (((y :: b2).length : Int) == 0) = false := by simp <;> omega
        have ly4 : ((y :: b2).length == 0) = false := by simp
        have ly5 : decide (0 < (b2.length : Int) + 1) = true := by simp <;> omega
        have ly6 : ((b2.length : Int) + 1 == 0) = false := by simp <;> omega
        have iy1 : (0 : Int) < (b2.length : Int) + 1 := by omega
        have iy2 : (0 : Int) < ((y :: b2).length : Int) := by simp <;> omega
        clear k0_ k1_

        go_wp2
        go_quiet (fail)
        go_wp2
        go_quiet (fail)
        go_wp2_with ((go_at_call 112; refine (HRR.out py y [] b2 _ hby ((Below.cell (p := py) (by repeat (first | exact HR.out | refine bl_drewN ?_ _ | refine bl_drew ?_ | refine bl_alloc ?_ _)) (World.block_lt_of_cell? wr _ Ky0.out)).trans Ky0.out) ((Below.cell (p := ⟨py.block, py.off + 1, none⟩) (by repeat (first | exact HR.out | refine bl_drewN ?_ _ | refine bl_drew ?_ | refine bl_alloc ?_ _)) (World.block_lt_of_cell? wr _ Ky1.out)).trans Ky1.out) (.inl rfl) (I1.out _ _ _ _ HI.out (by repeat (first | exact HR.out | refine bl_drewN ?_ _ | refine bl_drew ?_ | refine bl_alloc ?_ _)))).mono ?_; rintro e w5 ⟨rfl, hi5⟩; have HI5 := Lib.hid hi5; clear hi5))
        go_roundw
        case rel => exact ⟨_, some (tl py cy), cx, cy - 1, [], b2, rfl, rfl, by first | exact hcx | simpa using hcx, by omega, Rx, Ty, HI5⟩
        case measure => simp [lenV]; try omega

    · rcases b1 with _ | ⟨y, b2⟩
      ·
        replace hcx : a2.length + 1 ≤ cx := by simpa using hcx
        obtain ⟨px, e_, hbx, k0_, k1_⟩ := dot_head Rx.out (by simp)
        subst e_
        simp only [List.getElem_cons_zero] at k0_ k1_
        have cx0 := (BI.out.cell hbx).trans k0_
        have cx1 := (BI.out.cell (p := ⟨px.block, px.off + 1, none⟩) hbx).trans k1_
        have Kx0 := Lib.hid cx0
        have Kx1 := Lib.hid cx1
        have sx1 := tail_run px a2.length cx hcx
        have sx2 := tail_at px a2.length cx hcx
        have Tx := Lib.hid (rd_tail Rx.out hcx)
        have lx1 : decide (0 < ((x :: a2).length : Int)) = true := by simp <;> omega
        have lx2 : decide (0 < (x :: a2).length) = true := by simp
        have lx3 : (((x :: a2).length : Int) == 0) = false := by simp <;> omega
        have lx4 : ((x :: a2).length == 0) = false := by simp
        have lx5 : decide (0 < (a2.length : Int) + 1) = true := by simp <;> omega
        have lx6 : ((a2.length : Int) + 1 == 0) = false := by simp <;> omega
        have ix1 : (0 : Int) < (a2.length : Int) + 1 := by omega
        have ix2 : (0 : Int) < ((x :: a2).length : Int) := by simp <;> omega
        clear k0_ k1_

        go_wp2
        go_quiet (fail)
        go_wp2_with ((go_at_call 112; refine (HL.out px x a2 [] _ hbx ((Below.cell (p := px) (by repeat (first | exact HR.out | refine bl_drewN ?_ _ | refine bl_drew ?_ | refine bl_alloc ?_ _)) (World.block_lt_of_cell? wr _ Kx0.out)).trans Kx0.out) ((Below.cell (p := ⟨px.block, px.off + 1, none⟩) (by repeat (first | exact HR.out | refine bl_drewN ?_ _ | refine bl_drew ?_ | refine bl_alloc ?_ _)) (World.block_lt_of_cell? wr _ Kx1.out)).trans Kx1.out) (.inl rfl) (I1.out _ _ _ _ HI.out (by repeat (first | exact HR.out | refine bl_drewN ?_ _ | refine bl_drew ?_ | refine bl_alloc ?_ _)))).mono ?_; rintro e w5 ⟨rfl, hi5⟩; have HI5 := Lib.hid hi5; clear hi5))
        go_roundw
        case rel => exact ⟨some (tl px cx), _, cx - 1, cy, a2, [], rfl, rfl, by omega, by first | exact hcy | simpa using hcy, Tx, Ry, HI5⟩
        case measure => simp [lenV]; try omega

      ·
        replace hcx : a2.length + 1 ≤ cx := by simpa using hcx
        obtain ⟨px, e_, hbx, k0_, k1_⟩ := dot_head Rx.out (by simp)
        subst e_
        simp only [List.getElem_cons_zero] at k0_ k1_
        have cx0 := (BI.out.cell hbx).trans k0_
        have cx1 := (BI.out.cell (p := ⟨px.block, px.off + 1, none⟩) hbx).trans k1_
        have Kx0 := Lib.hid cx0
        have Kx1 := Lib.hid cx1
        have sx1 := tail_run px a2.length cx hcx
        have sx2 := tail_at px a2.length cx hcx
        have Tx := Lib.hid (rd_tail Rx.out hcx)
        have lx1 : decide (0 < ((x :: a2).length : Int)) = true := by simp <;> omega
        have lx2 : decide (0 < (x :: a2).length) = true := by simp
        have lx3 : (((x :: a2).length : Int) == 0) = false := by simp <;> omega
        have lx4 : ((x :: a2).length == 0) = false := by simp
        have lx5 : decide (0 < (a2.length : Int) + 1) = true := by simp <;> omega
        have lx6 : ((a2.length : Int) + 1 == 0) = false := by simp <;> omega
        have ix1 : (0 : Int) < (a2.length : Int) + 1 := by omega
        have ix2 : (0 : Int) < ((x :: a2).length : Int) := by simp <;> omega
        clear k0_ k1_

        replace hcy : b2.length + 1 ≤ cy := by simpa using hcy
        obtain ⟨py, e_, hby, k0_, k1_⟩ := dot_head Ry.out (by simp)
        subst e_
        simp only [List.getElem_cons_zero] at k0_ k1_
        have cy0 := (BI.out.cell hby).trans k0_
        have cy1 := (BI.out.cell (p := ⟨py.block, py.off + 1, none⟩) hby).trans k1_
        have Ky0 := Lib.hid cy0
        have Ky1 := Lib.hid cy1
        have sy1 := tail_run py b2.length cy hcy
        have sy2 := tail_at py b2.length cy hcy
        have Ty := Lib.hid (rd_tail Ry.out hcy)
        have ly1 : decide (0 < ((y :: b2).length : Int)) = true := by simp <;> omega
        have ly2 : decide (0 < (y :: b2).length) = true := by simp
        have ly3 : (((y :: b2).length : Int) == 0) = false := by simp <;> omega
        have ly4 : ((y :: b2).length == 0) = false := by simp
        have ly5 : decide (0 < (b2.length : Int) + 1) = true := by simp <;> omega
        have ly6 : ((b2.length : Int) + 1 == 0) = false := by simp <;> omega
        have iy1 : (0 : Int) < (b2.length : Int) + 1 := by omega
        have iy2 : (0 : Int) < ((y :: b2).length : Int) := by simp <;> omega
        clear k0_ k1_

        rcases Int.lt_trichotomy x.a y.a with hxy | hxy | hxy
        · have t1 : decide (x.a < y.a) = true := by simpa using hxy
          have HXY := Lib.hid hxy
          clear hxy
          go_wp2
          go_region_held3 (fun w' => w'.cell? px = some (.int .u32 x.a) ∧ w'.cell? ⟨px.block, px.off + 1, none⟩ = some (.int .u64 x.n) ∧ w'.cell? py = some (.int .u32 y.a) ∧ w'.cell? ⟨py.block, py.off + 1, none⟩ = some (.int .u64 y.n)) (first | go_keep | exact ⟨(HR.out.cell (World.block_lt_of_cell? wr _ Kx0.out)).trans Kx0.out, (HR.out.cell (World.block_lt_of_cell? wr _ Kx1.out)).trans Kx1.out, (HR.out.cell (World.block_lt_of_cell? wr _ Ky0.out)).trans Ky0.out, (HR.out.cell (World.block_lt_of_cell? wr _ Ky1.out)).trans Ky1.out⟩) ((go_at_call 111; refine (actor_any _ _).mono ?_; rintro e w2 ⟨rfl, hb2⟩; have N_ := Lib.hid (bl_then (w := wr) (by repeat (first | exact HR.out | refine bl_drewN ?_ _ | refine bl_drew ?_ | refine bl_alloc ?_ _)) hb2); clear hb2 HR; have HR := N_; clear N_))
          go_wp2_with ((go_at_call 112; refine (HL.out px x a2 (y :: b2) _ hbx ((Below.cell (p := px) (by repeat (first | exact HR.out | refine bl_drewN ?_ _ | refine bl_drew ?_ | refine bl_alloc ?_ _)) (World.block_lt_of_cell? wr _ Kx0.out)).trans Kx0.out) ((Below.cell (p := ⟨px.block, px.off + 1, none⟩) (by repeat (first | exact HR.out | refine bl_drewN ?_ _ | refine bl_drew ?_ | refine bl_alloc ?_ _)) (World.block_lt_of_cell? wr _ Kx1.out)).trans Kx1.out) (.inr ⟨y, b2, rfl, HXY.out⟩) (I1.out _ _ _ _ HI.out (by repeat (first | exact HR.out | refine bl_drewN ?_ _ | refine bl_drew ?_ | refine bl_alloc ?_ _)))).mono ?_; rintro e w5 ⟨rfl, hi5⟩; have HI5 := Lib.hid hi5; clear hi5))
          go_roundw
          case rel => exact ⟨some (tl px cx), _, cx - 1, cy, a2, y :: b2, rfl, rfl, by omega, by first | exact hcy | simpa using hcy, Tx, Ry, HI5⟩
          case measure => simp [lenV]; try omega

        · have t1 : decide (x.a < y.a) = false := by simp; omega
          have t2 : decide (y.a < x.a) = false := by simp; omega
          have HXY := Lib.hid hxy
          clear hxy
          have hxy := HXY
          clear HXY
          go_wp2
          go_region_held3 (fun w' => w'.cell? px = some (.int .u32 x.a) ∧ w'.cell? ⟨px.block, px.off + 1, none⟩ = some (.int .u64 x.n) ∧ w'.cell? py = some (.int .u32 y.a) ∧ w'.cell? ⟨py.block, py.off + 1, none⟩ = some (.int .u64 y.n)) (first | go_keep | exact ⟨(HR.out.cell (World.block_lt_of_cell? wr _ Kx0.out)).trans Kx0.out, (HR.out.cell (World.block_lt_of_cell? wr _ Kx1.out)).trans Kx1.out, (HR.out.cell (World.block_lt_of_cell? wr _ Ky0.out)).trans Ky0.out, (HR.out.cell (World.block_lt_of_cell? wr _ Ky1.out)).trans Ky1.out⟩) ((go_at_call 111; refine (actor_any _ _).mono ?_; rintro e w2 ⟨rfl, hb2⟩; have N_ := Lib.hid (bl_then (w := wr) (by repeat (first | exact HR.out | refine bl_drewN ?_ _ | refine bl_drew ?_ | refine bl_alloc ?_ _)) hb2); clear hb2 HR; have HR := N_; clear N_))
          go_wp2
          go_region_held3 (fun w' => w'.cell? px = some (.int .u32 x.a) ∧ w'.cell? ⟨px.block, px.off + 1, none⟩ = some (.int .u64 x.n) ∧ w'.cell? py = some (.int .u32 y.a) ∧ w'.cell? ⟨py.block, py.off + 1, none⟩ = some (.int .u64 y.n)) (first | go_keep | exact ⟨(HR.out.cell (World.block_lt_of_cell? wr _ Kx0.out)).trans Kx0.out, (HR.out.cell (World.block_lt_of_cell? wr _ Kx1.out)).trans Kx1.out, (HR.out.cell (World.block_lt_of_cell? wr _ Ky0.out)).trans Ky0.out, (HR.out.cell (World.block_lt_of_cell? wr _ Ky1.out)).trans Ky1.out⟩) ((go_at_call 111; refine (actor_any _ _).mono ?_; rintro e w2 ⟨rfl, hb2⟩; have N_ := Lib.hid (bl_then (w := wr) (by repeat (first | exact HR.out | refine bl_drewN ?_ _ | refine bl_drew ?_ | refine bl_alloc ?_ _)) hb2); clear hb2 HR; have HR := N_; clear N_))
          go_wp2
          go_region_held3 (fun _ => True) (trivial) ((go_at_call 112; refine (HB.out px py x y a2 b2 _ hbx ((Below.cell (p := px) (by repeat (first | exact HR.out | refine bl_drewN ?_ _ | refine bl_drew ?_ | refine bl_alloc ?_ _)) (World.block_lt_of_cell? wr _ Kx0.out)).trans Kx0.out) ((Below.cell (p := ⟨px.block, px.off + 1, none⟩) (by repeat (first | exact HR.out | refine bl_drewN ?_ _ | refine bl_drew ?_ | refine bl_alloc ?_ _)) (World.block_lt_of_cell? wr _ Kx1.out)).trans Kx1.out) hby ((Below.cell (p := py) (by repeat (first | exact HR.out | refine bl_drewN ?_ _ | refine bl_drew ?_ | refine bl_alloc ?_ _)) (World.block_lt_of_cell? wr _ Ky0.out)).trans Ky0.out) ((Below.cell (p := ⟨py.block, py.off + 1, none⟩) (by repeat (first | exact HR.out | refine bl_drewN ?_ _ | refine bl_drew ?_ | refine bl_alloc ?_ _)) (World.block_lt_of_cell? wr _ Ky1.out)).trans Ky1.out) hxy.out (I1.out _ _ _ _ HI.out (by repeat (first | exact HR.out | refine bl_drewN ?_ _ | refine bl_drew ?_ | refine bl_alloc ?_ _)))).mono ?_; rintro e w5 ⟨rfl, hi5⟩; have HI5 := Lib.hid hi5; clear hi5))
          go_wp2
          go_quiet (fail)
          go_wp2
          go_roundw
          case rel => exact ⟨some (tl px cx), some (tl py cy), cx - 1, cy - 1, a2, b2, rfl, rfl, by omega, by omega, Tx, Ty, Lib.hid (I1.out _ _ _ _ HI5.out (by repeat (first | exact Below.refl _ _ | refine bl_drewN ?_ _ | refine bl_drew ?_ | refine bl_alloc ?_ _)))⟩
          case measure => simp [lenV]; try omega

        · have t1 : decide (x.a < y.a) = false := by simp; omega
          have t2 : decide (y.a < x.a) = true := by simpa using hxy
          have HXY := Lib.hid hxy
          clear hxy
          go_wp2
          go_region_held3 (fun w' => w'.cell? px = some (.int .u32 x.a) ∧ w'.cell? ⟨px.block, px.off + 1, none⟩ = some (.int .u64 x.n) ∧ w'.cell? py = some (.int .u32 y.a) ∧ w'.cell? ⟨py.block, py.off + 1, none⟩ = some (.int .u64 y.n)) (first | go_keep | exact ⟨(HR.out.cell (World.block_lt_of_cell? wr _ Kx0.out)).trans Kx0.out, (HR.out.cell (World.block_lt_of_cell? wr _ Kx1.out)).trans Kx1.out, (HR.out.cell (World.block_lt_of_cell? wr _ Ky0.out)).trans Ky0.out, (HR.out.cell (World.block_lt_of_cell? wr _ Ky1.out)).trans Ky1.out⟩) ((go_at_call 111; refine (actor_any _ _).mono ?_; rintro e w2 ⟨rfl, hb2⟩; have N_ := Lib.hid (bl_then (w := wr) (by repeat (first | exact HR.out | refine bl_drewN ?_ _ | refine bl_drew ?_ | refine bl_alloc ?_ _)) hb2); clear hb2 HR; have HR := N_; clear N_))
          go_wp2
          go_region_held3 (fun w' => w'.cell? px = some (.int .u32 x.a) ∧ w'.cell? ⟨px.block, px.off + 1, none⟩ = some (.int .u64 x.n) ∧ w'.cell? py = some (.int .u32 y.a) ∧ w'.cell? ⟨py.block, py.off + 1, none⟩ = some (.int .u64 y.n)) (first | go_keep | exact ⟨(HR.out.cell (World.block_lt_of_cell? wr _ Kx0.out)).trans Kx0.out, (HR.out.cell (World.block_lt_of_cell? wr _ Kx1.out)).trans Kx1.out, (HR.out.cell (World.block_lt_of_cell? wr _ Ky0.out)).trans Ky0.out, (HR.out.cell (World.block_lt_of_cell? wr _ Ky1.out)).trans Ky1.out⟩) ((go_at_call 111; refine (actor_any _ _).mono ?_; rintro e w2 ⟨rfl, hb2⟩; have N_ := Lib.hid (bl_then (w := wr) (by repeat (first | exact HR.out | refine bl_drewN ?_ _ | refine bl_drew ?_ | refine bl_alloc ?_ _)) hb2); clear hb2 HR; have HR := N_; clear N_))
          go_wp2_with ((go_at_call 112; refine (HRR.out py y (x :: a2) b2 _ hby ((Below.cell (p := py) (by repeat (first | exact HR.out | refine bl_drewN ?_ _ | refine bl_drew ?_ | refine bl_alloc ?_ _)) (World.block_lt_of_cell? wr _ Ky0.out)).trans Ky0.out) ((Below.cell (p := ⟨py.block, py.off + 1, none⟩) (by repeat (first | exact HR.out | refine bl_drewN ?_ _ | refine bl_drew ?_ | refine bl_alloc ?_ _)) (World.block_lt_of_cell? wr _ Ky1.out)).trans Ky1.out) (.inr ⟨x, a2, rfl, HXY.out⟩) (I1.out _ _ _ _ HI.out (by repeat (first | exact HR.out | refine bl_drewN ?_ _ | refine bl_drew ?_ | refine bl_alloc ?_ _)))).mono ?_; rintro e w5 ⟨rfl, hi5⟩; have HI5 := Lib.hid hi5; clear hi5))
          go_roundw
          case rel => exact ⟨_, some (tl py cy), cx, cy - 1, x :: a2, b2, rfl, rfl, by first | exact hcx | simpa using hcx, by omega, Rx, Ty, HI5⟩
          case measure => simp [lenV]; try omega
end Go.Proofs.Ytljfigikkajlnaa
