/- DERIVED. The statement's closure that keeps what Merge tells. -/
import Derived.Test.YtejodabmddcanaaMrgK
namespace Go.Proofs.Ytejodabmddcanaa
open Go.RowKit

theorem own_set {α : Type} {K : GR.Kind α} {w : World} {B : Nat} {v : Value} {l : List α} {p : Addr} (h : GR.Own K w B v l) (hne : v.ownBlock ≠ some p.block) (u : Value) : GR.Own K (w.setCell p u) B v l :=
  h.grown (row := some p.block) ⟨rfl, rfl, rfl, by simp [World.setCell], fun k _ hk => Below.heap_setCell _ _ _ _ (by intro e; subst e; exact hk rfl)⟩ (.inr hne)
theorem own_slice' {w : World} {B : Nat} {v : Value} {l : List Tld} (h : GR.Own tldK w B v l) (hb : l.length * 56 ≤ 140737488355328) : ∃ A n c, v = .slice A n c := by
  obtain ⟨A, c, e, _⟩ := h.rd' hb
  exact ⟨A, _, c, e⟩

set_option maxRecDepth 100000 in
set_option maxHeartbeats 6400000 in
theorem tell_left (B g gw gr : Nat) (key : ByteArray) (v : Value) (acc : List Tld) (Aw : Option Addr) (nw cw : Nat) (w : World) (hx : Nat) (x : Itm) (bx : GR.Blk w hx 28 #[.string x.key, .int .i64 x.n]) (hBx : B ≤ hx)
    (hB : B ≤ g) (bg : GR.Blk w g 24 #[v]) (bw : GR.Blk w gw 24 #[.slice Aw nw cw]) (br : GR.Blk w gr 4 #[.bool true]) (ho : GR.Own tldK w B v acc) (hl : acc.length ≤ nw) (hsz : (acc.length + 1) * 56 ≤ 140737488355328) :
    Calls Try.prog 17 #[.string key, .pointer (some ⟨hx, 0, none⟩), .pointer none, .pointer (some ⟨g, 0, none⟩), .pointer (some ⟨gw, 0, none⟩), .pointer (some ⟨gr, 0, none⟩)] w fun e w' => e = .returned (.tuple #[]) ∧ (∃ v', GR.Blk w' g 24 #[v'] ∧ GR.Own tldK w' B v' (acc ++ [⟨key, 1, x.key, x.n, 0⟩])) ∧ GR.Blk w' gr 4 #[.bool true] ∧ Below B w w' := by
  obtain ⟨i0, hi0, hz0, hz1, hz2⟩ := info_parts' tld_info
  obtain ⟨A, c, rfl, _, _⟩ := ho.rd' (by show acc.length * 56 ≤ 140737488355328; omega)
  have c0 : w.cell? ⟨g, 0, none⟩ = some (.slice A acc.length c) := bg.cell 0
  have f0 := bg.frozen 0
  have lg := bg.lt
  have ng : g ≠ w.heap.size := Nat.ne_of_lt lg
  have e0 : w.cell? ⟨gw, 0, none⟩ = some (.slice Aw nw cw) := bw.cell 0
  have lw := bw.lt
  have nw_ : gw ≠ w.heap.size := Nat.ne_of_lt lw
  have lr := br.lt
  have nrh : gr ≠ w.heap.size := Nat.ne_of_lt lr
  have nrg : gr ≠ g := br.ne_ bg (by decide)
  have NEH : (Value.slice A acc.length c).ownBlock ≠ some w.heap.size := fun h => by have := ho.lt _ h; omega
  have t1 : decide (nw < acc.length) = false := by simp; omega
  have t2 : decide ((nw : Int) < (acc.length : Int)) = false := by simp; omega
  have x0 : w.cell? ⟨hx, 0, none⟩ = some (.string x.key) := bx.cell 0
  have x1 : w.cell? ⟨hx, 1, none⟩ = some (.int .i64 x.n) := bx.cell 1
  have fx0 := bx.frozen 0
  have fx1 := bx.frozen 1
  have lx := bx.lt
  have nx : hx ≠ w.heap.size := Nat.ne_of_lt lx
  have nxg : hx ≠ g := bx.ne_ bg (by decide)
  have nxw : hx ≠ gw := bx.ne_ bw (by decide)
  have nxr : hx ≠ gr := bx.ne_ br (by decide)
  have NEX := GR.own_blk_ne ho bx (by decide)
  have ngx := Ne.symm nxg
  have nrx := Ne.symm nxr
  have BG := Lib.hid bg
  have BR := Lib.hid br
  have HO := Lib.hid ho
  have hBw : B ≤ w.heap.size := Nat.le_trans hB (Nat.le_of_lt lg)
  clear bg ho bw br
  go_enter Try.func17, Try.ntmps17
  go_wp2_with (at_builtin; refine GR.app_all (K := tldK) rfl (.tmp 39) (.tmp 41) _ rfl Try.underlying24 hi0 hz0 hz1 hz2 rfl B (.slice A acc.length c) acc rfl (by repeat (first | exact HO.out | refine own_set ?_ NEH _ | refine own_set ?_ NEX _ | refine own_set ?_ NEY _ | refine GR.Own.alloc ?_ _)) _ 1 1 [⟨key, 1, x.key, x.n, 0⟩] rfl rfl (GR.rd_new _ (by simp [World.setCell]) (by show 56 ≤ 140737488355328; omega)) (by show (acc.length + 1) * 56 ≤ _; exact hsz) (by simp [World.setCell]; omega) ?_; intro v3 w3 ho_ hg_ hat_; obtain ⟨A3, n3, c3, rfl⟩ := own_slice' ho_ (by rw [List.length_append]; exact hsz); have B3 : Hid (GR.Blk w3 g 24 #[.slice A acc.length c]) := Lib.hid (GR.Blk.grown (by repeat (first | exact BG.out | refine GR.Blk.far ?_ ng _ | refine GR.Blk.far ?_ ngx _ | refine GR.Blk.far ?_ ngy _ | refine GR.Blk.alloc ?_ _)) hg_ (Ne.symm (GR.own_blk_ne HO.out BG.out (by decide)))); have R3 : Hid (GR.Blk w3 gr 4 #[.bool true]) := Lib.hid (GR.Blk.grown (by repeat (first | exact BR.out | refine GR.Blk.far ?_ nrh _ | refine GR.Blk.far ?_ nrx _ | refine GR.Blk.far ?_ nry _ | refine GR.Blk.alloc ?_ _)) hg_ (Ne.symm (GR.own_blk_ne HO.out BR.out (by decide)))); have HO3 := Lib.hid ho_; have HB3 := Lib.hid ((by repeat (first | exact Below.refl _ _ | refine Below.setCell ?_ hB _ | refine Below.setCell ?_ hBw _ | refine Below.setCell ?_ hBx _ | refine Below.setCell ?_ hBy _ | refine Below.alloc ?_ (by simp [World.setCell]; omega) _) : Below B w _).grown hg_ (by simp [World.setCell]; omega) (fun b hb => (HO.out.lt b hb).1)); clear ho_ hg_ hat_; have d0 : w3.cell? ⟨g, 0, none⟩ = some (.slice A acc.length c) := B3.out.cell 0; have d1 := B3.out.frozen 0)
  go_end0
  exact ⟨rfl, ⟨_, B3.out.set_ 0 _, own_set HO3.out (GR.own_blk_ne (t := 24) HO3.out B3.out (by decide)) _⟩, R3.out.far nrg _, HB3.out.setCell hB _⟩

set_option maxRecDepth 100000 in
set_option maxHeartbeats 6400000 in
theorem tell_right (B g gw gr : Nat) (key : ByteArray) (v : Value) (acc : List Tld) (Aw : Option Addr) (nw cw : Nat) (w : World) (hy : Nat) (y : Int) (by_ : GR.Blk w hy 5 #[.int .u8 y]) (hBy : B ≤ hy)
    (hB : B ≤ g) (bg : GR.Blk w g 24 #[v]) (bw : GR.Blk w gw 24 #[.slice Aw nw cw]) (br : GR.Blk w gr 4 #[.bool true]) (ho : GR.Own tldK w B v acc) (hl : acc.length ≤ nw) (hsz : (acc.length + 1) * 56 ≤ 140737488355328) :
    Calls Try.prog 17 #[.string key, .pointer none, .pointer (some ⟨hy, 0, none⟩), .pointer (some ⟨g, 0, none⟩), .pointer (some ⟨gw, 0, none⟩), .pointer (some ⟨gr, 0, none⟩)] w fun e w' => e = .returned (.tuple #[]) ∧ (∃ v', GR.Blk w' g 24 #[v'] ∧ GR.Own tldK w' B v' (acc ++ [⟨key, 2, ⟨#[]⟩, 0, y⟩])) ∧ GR.Blk w' gr 4 #[.bool true] ∧ Below B w w' := by
  obtain ⟨i0, hi0, hz0, hz1, hz2⟩ := info_parts' tld_info
  obtain ⟨A, c, rfl, _, _⟩ := ho.rd' (by show acc.length * 56 ≤ 140737488355328; omega)
  have c0 : w.cell? ⟨g, 0, none⟩ = some (.slice A acc.length c) := bg.cell 0
  have f0 := bg.frozen 0
  have lg := bg.lt
  have ng : g ≠ w.heap.size := Nat.ne_of_lt lg
  have e0 : w.cell? ⟨gw, 0, none⟩ = some (.slice Aw nw cw) := bw.cell 0
  have lw := bw.lt
  have nw_ : gw ≠ w.heap.size := Nat.ne_of_lt lw
  have lr := br.lt
  have nrh : gr ≠ w.heap.size := Nat.ne_of_lt lr
  have nrg : gr ≠ g := br.ne_ bg (by decide)
  have NEH : (Value.slice A acc.length c).ownBlock ≠ some w.heap.size := fun h => by have := ho.lt _ h; omega
  have t1 : decide (nw < acc.length) = false := by simp; omega
  have t2 : decide ((nw : Int) < (acc.length : Int)) = false := by simp; omega
  have y0 : w.cell? ⟨hy, 0, none⟩ = some (.int .u8 y) := by_.cell 0
  have fy0 := by_.frozen 0
  have ly := by_.lt
  have ny : hy ≠ w.heap.size := Nat.ne_of_lt ly
  have nyg : hy ≠ g := by_.ne_ bg (by decide)
  have nyw : hy ≠ gw := by_.ne_ bw (by decide)
  have nyr : hy ≠ gr := by_.ne_ br (by decide)
  have NEY := GR.own_blk_ne ho by_ (by decide)
  have ngy := Ne.symm nyg
  have nry := Ne.symm nyr
  have BG := Lib.hid bg
  have BR := Lib.hid br
  have HO := Lib.hid ho
  have hBw : B ≤ w.heap.size := Nat.le_trans hB (Nat.le_of_lt lg)
  clear bg ho bw br
  go_enter Try.func17, Try.ntmps17
  go_wp2_with (at_builtin; refine GR.app_all (K := tldK) rfl (.tmp 39) (.tmp 41) _ rfl Try.underlying24 hi0 hz0 hz1 hz2 rfl B (.slice A acc.length c) acc rfl (by repeat (first | exact HO.out | refine own_set ?_ NEH _ | refine own_set ?_ NEX _ | refine own_set ?_ NEY _ | refine GR.Own.alloc ?_ _)) _ 1 1 [⟨key, 2, ⟨#[]⟩, 0, y⟩] rfl rfl (GR.rd_new _ (by simp [World.setCell]) (by show 56 ≤ 140737488355328; omega)) (by show (acc.length + 1) * 56 ≤ _; exact hsz) (by simp [World.setCell]; omega) ?_; intro v3 w3 ho_ hg_ hat_; obtain ⟨A3, n3, c3, rfl⟩ := own_slice' ho_ (by rw [List.length_append]; exact hsz); have B3 : Hid (GR.Blk w3 g 24 #[.slice A acc.length c]) := Lib.hid (GR.Blk.grown (by repeat (first | exact BG.out | refine GR.Blk.far ?_ ng _ | refine GR.Blk.far ?_ ngx _ | refine GR.Blk.far ?_ ngy _ | refine GR.Blk.alloc ?_ _)) hg_ (Ne.symm (GR.own_blk_ne HO.out BG.out (by decide)))); have R3 : Hid (GR.Blk w3 gr 4 #[.bool true]) := Lib.hid (GR.Blk.grown (by repeat (first | exact BR.out | refine GR.Blk.far ?_ nrh _ | refine GR.Blk.far ?_ nrx _ | refine GR.Blk.far ?_ nry _ | refine GR.Blk.alloc ?_ _)) hg_ (Ne.symm (GR.own_blk_ne HO.out BR.out (by decide)))); have HO3 := Lib.hid ho_; have HB3 := Lib.hid ((by repeat (first | exact Below.refl _ _ | refine Below.setCell ?_ hB _ | refine Below.setCell ?_ hBw _ | refine Below.setCell ?_ hBx _ | refine Below.setCell ?_ hBy _ | refine Below.alloc ?_ (by simp [World.setCell]; omega) _) : Below B w _).grown hg_ (by simp [World.setCell]; omega) (fun b hb => (HO.out.lt b hb).1)); clear ho_ hg_ hat_; have d0 : w3.cell? ⟨g, 0, none⟩ = some (.slice A acc.length c) := B3.out.cell 0; have d1 := B3.out.frozen 0)
  go_end0
  exact ⟨rfl, ⟨_, B3.out.set_ 0 _, own_set HO3.out (GR.own_blk_ne (t := 24) HO3.out B3.out (by decide)) _⟩, R3.out.far nrg _, HB3.out.setCell hB _⟩

set_option maxRecDepth 100000 in
set_option maxHeartbeats 6400000 in
theorem tell_both (B g gw gr : Nat) (key : ByteArray) (v : Value) (acc : List Tld) (Aw : Option Addr) (nw cw : Nat) (w : World) (hx : Nat) (x : Itm) (bx : GR.Blk w hx 28 #[.string x.key, .int .i64 x.n]) (hBx : B ≤ hx) (hy : Nat) (y : Int) (by_ : GR.Blk w hy 5 #[.int .u8 y]) (hBy : B ≤ hy)
    (hB : B ≤ g) (bg : GR.Blk w g 24 #[v]) (bw : GR.Blk w gw 24 #[.slice Aw nw cw]) (br : GR.Blk w gr 4 #[.bool true]) (ho : GR.Own tldK w B v acc) (hl : acc.length ≤ nw) (hsz : (acc.length + 1) * 56 ≤ 140737488355328) :
    Calls Try.prog 17 #[.string key, .pointer (some ⟨hx, 0, none⟩), .pointer (some ⟨hy, 0, none⟩), .pointer (some ⟨g, 0, none⟩), .pointer (some ⟨gw, 0, none⟩), .pointer (some ⟨gr, 0, none⟩)] w fun e w' => e = .returned (.tuple #[]) ∧ (∃ v', GR.Blk w' g 24 #[v'] ∧ GR.Own tldK w' B v' (acc ++ [⟨key, 3, x.key, x.n, y⟩])) ∧ GR.Blk w' gr 4 #[.bool true] ∧ Below B w w' := by
  obtain ⟨i0, hi0, hz0, hz1, hz2⟩ := info_parts' tld_info
  obtain ⟨A, c, rfl, _, _⟩ := ho.rd' (by show acc.length * 56 ≤ 140737488355328; omega)
  have c0 : w.cell? ⟨g, 0, none⟩ = some (.slice A acc.length c) := bg.cell 0
  have f0 := bg.frozen 0
  have lg := bg.lt
  have ng : g ≠ w.heap.size := Nat.ne_of_lt lg
  have e0 : w.cell? ⟨gw, 0, none⟩ = some (.slice Aw nw cw) := bw.cell 0
  have lw := bw.lt
  have nw_ : gw ≠ w.heap.size := Nat.ne_of_lt lw
  have lr := br.lt
  have nrh : gr ≠ w.heap.size := Nat.ne_of_lt lr
  have nrg : gr ≠ g := br.ne_ bg (by decide)
  have NEH : (Value.slice A acc.length c).ownBlock ≠ some w.heap.size := fun h => by have := ho.lt _ h; omega
  have t1 : decide (nw < acc.length) = false := by simp; omega
  have t2 : decide ((nw : Int) < (acc.length : Int)) = false := by simp; omega
  have x0 : w.cell? ⟨hx, 0, none⟩ = some (.string x.key) := bx.cell 0
  have x1 : w.cell? ⟨hx, 1, none⟩ = some (.int .i64 x.n) := bx.cell 1
  have fx0 := bx.frozen 0
  have fx1 := bx.frozen 1
  have lx := bx.lt
  have nx : hx ≠ w.heap.size := Nat.ne_of_lt lx
  have nxg : hx ≠ g := bx.ne_ bg (by decide)
  have nxw : hx ≠ gw := bx.ne_ bw (by decide)
  have nxr : hx ≠ gr := bx.ne_ br (by decide)
  have NEX := GR.own_blk_ne ho bx (by decide)
  have ngx := Ne.symm nxg
  have nrx := Ne.symm nxr
  have y0 : w.cell? ⟨hy, 0, none⟩ = some (.int .u8 y) := by_.cell 0
  have fy0 := by_.frozen 0
  have ly := by_.lt
  have ny : hy ≠ w.heap.size := Nat.ne_of_lt ly
  have nyg : hy ≠ g := by_.ne_ bg (by decide)
  have nyw : hy ≠ gw := by_.ne_ bw (by decide)
  have nyr : hy ≠ gr := by_.ne_ br (by decide)
  have NEY := GR.own_blk_ne ho by_ (by decide)
  have ngy := Ne.symm nyg
  have nry := Ne.symm nyr
  have nxy : hx ≠ hy := bx.ne_ by_ (by decide)
  have BG := Lib.hid bg
  have BR := Lib.hid br
  have HO := Lib.hid ho
  have hBw : B ≤ w.heap.size := Nat.le_trans hB (Nat.le_of_lt lg)
  clear bg ho bw br
  go_enter Try.func17, Try.ntmps17
  go_wp2_with (at_builtin; refine GR.app_all (K := tldK) rfl (.tmp 39) (.tmp 41) _ rfl Try.underlying24 hi0 hz0 hz1 hz2 rfl B (.slice A acc.length c) acc rfl (by repeat (first | exact HO.out | refine own_set ?_ NEH _ | refine own_set ?_ NEX _ | refine own_set ?_ NEY _ | refine GR.Own.alloc ?_ _)) _ 1 1 [⟨key, 3, x.key, x.n, y⟩] rfl rfl (GR.rd_new _ (by simp [World.setCell]) (by show 56 ≤ 140737488355328; omega)) (by show (acc.length + 1) * 56 ≤ _; exact hsz) (by simp [World.setCell]; omega) ?_; intro v3 w3 ho_ hg_ hat_; obtain ⟨A3, n3, c3, rfl⟩ := own_slice' ho_ (by rw [List.length_append]; exact hsz); have B3 : Hid (GR.Blk w3 g 24 #[.slice A acc.length c]) := Lib.hid (GR.Blk.grown (by repeat (first | exact BG.out | refine GR.Blk.far ?_ ng _ | refine GR.Blk.far ?_ ngx _ | refine GR.Blk.far ?_ ngy _ | refine GR.Blk.alloc ?_ _)) hg_ (Ne.symm (GR.own_blk_ne HO.out BG.out (by decide)))); have R3 : Hid (GR.Blk w3 gr 4 #[.bool true]) := Lib.hid (GR.Blk.grown (by repeat (first | exact BR.out | refine GR.Blk.far ?_ nrh _ | refine GR.Blk.far ?_ nrx _ | refine GR.Blk.far ?_ nry _ | refine GR.Blk.alloc ?_ _)) hg_ (Ne.symm (GR.own_blk_ne HO.out BR.out (by decide)))); have HO3 := Lib.hid ho_; have HB3 := Lib.hid ((by repeat (first | exact Below.refl _ _ | refine Below.setCell ?_ hB _ | refine Below.setCell ?_ hBw _ | refine Below.setCell ?_ hBx _ | refine Below.setCell ?_ hBy _ | refine Below.alloc ?_ (by simp [World.setCell]; omega) _) : Below B w _).grown hg_ (by simp [World.setCell]; omega) (fun b hb => (HO.out.lt b hb).1)); clear ho_ hg_ hat_; have d0 : w3.cell? ⟨g, 0, none⟩ = some (.slice A acc.length c) := B3.out.cell 0; have d1 := B3.out.frozen 0)
  go_end0
  exact ⟨rfl, ⟨_, B3.out.set_ 0 _, own_set HO3.out (GR.own_blk_ne (t := 24) HO3.out B3.out (by decide)) _⟩, R3.out.far nrg _, HB3.out.setCell hB _⟩
end Go.Proofs.Ytejodabmddcanaa
