/- DERIVED. SegmentForms: the walk of the law. -/
import Derived.Test.YtejodabmddcanaaFrmAnew
import Derived.Test.YtejodabmddcanaaFrmHome
import Derived.Test.YtejodabmddcanaaSegLent2
namespace Go.Proofs.Ytejodabmddcanaa
open Go.RowKit Go.Lib

set_option maxRecDepth 100000 in
set_option maxHeartbeats 12800000 in
theorem forms_walk (A : Option Addr) (c : Nat) (n wd : Int) (l : List Ent) (w : World) (ha : Rd w A l) (hl : l.length ≤ 1048576) (hs : ∀ e ∈ l, e.key.size ≤ 1048576 ∧ e.sum.size ≤ 1048576) :
    Calls Try.prog 11 #[.int .i64 n, .slice A l.length c, .int .i64 wd] w fun e w' => e = .returned (.bool true) ∧ Below w.heap.size w w' := by
  have HA := Lib.hid ha
  have HS := Lib.hid (show ∀ e ∈ l, e.sum.size ≤ 140737488355328 from fun e he => by have := (hs e he).2; omega)
  clear ha hs
  go_enter Try.func11, Try.ntmps11
  go_wp2_with fail
  refine (lent_any A c l _ HA.out (by omega)).mono ?_
  rintro e w1 ⟨g, cap, rfl, _, ho1, hb1⟩
  have O1 := Lib.hid ho1
  have B1 := Lib.hid hb1
  have hg := (ho1.lt g rfl).1
  clear ho1 hb1
  go_wp2_with fail
  refine (refFormE_any A c n l hl _ (HA.out.below B1.out)).mono ?_
  rintro e w2 ⟨rfl, hb2⟩
  have O2 := Lib.hid (O1.out.below hb2)
  have B2 := Lib.hid (bl_then B1.out hb2)
  clear hb2 O1 B1
  go_wp2_with fail
  refine (refSum_any A c n l wd hl _ (HA.out.below B2.out)).mono ?_
  rintro e w3 ⟨rfl, hb3⟩
  have O3 := Lib.hid (O2.out.below hb3)
  have B3 := Lib.hid (bl_then B2.out hb3)
  clear hb3 O2 B2
  go_wp2_with fail
  refine (segForm_any (some ⟨g, 0, none⟩) cap n l hl _ (O3.out.take.rd (by omega)).2).mono ?_
  rintro e w4 ⟨rfl, hb4⟩
  have O4 := Lib.hid (O3.out.below hb4)
  have B4 := Lib.hid (bl_then B3.out hb4)
  clear hb4 O3 B3
  go_wp2_with fail
  refine (segSum_any (some ⟨g, 0, none⟩) cap n l wd hl _ (O4.out.take.rd (by omega)).2).mono ?_
  rintro e w5 ⟨rfl, hb5⟩
  have O5 := Lib.hid (O4.out.below hb5)
  have B5 := Lib.hid (bl_then B4.out hb5)
  clear hb5 O4 B4
  go_wp2_with fail
  refine (segValid_any (some ⟨g, 0, none⟩) cap l wd _ (O5.out.take.rd (by omega)).2).mono ?_
  rintro e w6 ⟨rfl, hb6⟩
  have O6 := Lib.hid (O5.out.below hb6)
  have B6 := Lib.hid (bl_then B5.out hb6)
  clear hb6 O5 B5
  go_wp2_with fail
  refine (refValid_any A c l wd _ (HA.out.below B6.out)).mono ?_
  rintro e w7 ⟨rfl, hd7⟩
  have O7 := Lib.hid (O6.out.below (hd7.below _))
  have B7 := Lib.hid (bl_drawn B6.out hd7)
  clear hd7 O6 B6
  go_wp2_with fail
  refine (segHome_any (some ⟨g, 0, none⟩) cap n l _ (O7.out.take.rd (by omega)).2).mono ?_
  rintro e w8 ⟨rfl, hb8⟩
  have O8 := Lib.hid (O7.out.below hb8)
  have B8 := Lib.hid (bl_then B7.out hb8)
  clear hb8 O7 B7
  go_wp2_with fail
  refine (refHome_any A c n l _ (HA.out.below B8.out)).mono ?_
  rintro e w9 ⟨rfl, hb9⟩
  have O9 := Lib.hid (O8.out.below hb9)
  have B9 := Lib.hid (bl_then B8.out hb9)
  clear hb9 O8 B8
  go_wp2_with fail
  refine (kept_any g cap _ A c l _ (HA.out.below B9.out) (by omega) O9.out).mono ?_
  rintro e w10 ⟨rfl, hb10⟩
  have O10 := Lib.hid (O9.out.below hb10)
  have B10 := Lib.hid (bl_then B9.out hb10)
  clear hb10 O9 B9
  go_wp2_with fail
  refine (anew_any w.heap.size g cap n wd l _ hl HS.out hg O10.out.take).mono ?_
  rintro e w11 ⟨rfl, hb11⟩
  have B11 := Lib.hid (B10.out.trans hb11)
  clear hb11
  go_wp2
  go_ret
  exact ⟨rfl, B11.out⟩
end Go.Proofs.Ytejodabmddcanaa
