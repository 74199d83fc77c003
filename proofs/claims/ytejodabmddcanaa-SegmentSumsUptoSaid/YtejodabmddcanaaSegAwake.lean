/- DERIVED. The statements' helper awake: two lists differ where they do. -/
import Derived.Test.YtejodabmddcanaaSegDiffS
import Derived.Test.YtejodabmddcanaaSegPutU
namespace Go.Proofs.Ytejodabmddcanaa
open Go.RowKit

def entA : Ent := ⟨⟨#[97]⟩, ⟨#[120]⟩⟩
def entB : Ent := ⟨⟨#[98]⟩, ⟨#[121]⟩⟩
theorem put1E : putE [] entA = 0 := by decide +kernel
theorem put1A : putA [] entA = [entA] := by decide +kernel
theorem put2E : putE [entA] entB = 0 := by decide +kernel
theorem put2A : putA [entA] entB = [entA, entB] := by decide +kernel
theorem lt1 : ltK entA.key entA.key = false := by decide +kernel
theorem dif1E : difE [entA] [entA, entB] = 0 := by decide +kernel
theorem dif1A : difA [entA] [entA, entB] = [⟨entB.key, em, entB.sum⟩] := by
  have h : (listB [entA] && listB [entA, entB]) = true := by decide +kernel
  rw [difA, if_pos h, dif, if_neg (by rw [lt1]; exact Bool.false_ne_true), if_neg (by rw [lt1]; exact Bool.false_ne_true), if_pos rfl, dif, dif]

attribute [local go_sem high] eq51
set_option maxRecDepth 100000 in
set_option maxHeartbeats 3200000 in
theorem awake_any (w : World) : Calls Try.prog 40 #[] w fun e w' => e = .returned (.bool true) ∧ Below w.heap.size w w' := by
  go_enter Try.func40, Try.ntmps40
  go_wp2_with fail
  refine (segPut_any none 0 [] entA _ (Rd.nil _ _) (by simp) (by simp) (fun _ => rfl)).mono ?_
  rintro e w1 ⟨v1, rfl, ho_, hb_⟩
  rw [put1E]
  rw [put1A] at ho_
  have B1 := Lib.hid hb_
  obtain ⟨A1, c1, e1, hc1, r1⟩ := ho_.rd' (by simp)
  subst e1
  have R1 := Lib.hid r1
  clear r1 ho_ hb_
  go_wp2_with fail
  refine (segPut_any A1 c1 [entA] entB _ R1.out hc1 (by simp) (fun h => by obtain ⟨ad, e, _⟩ := R1.out.2 (by simp); rw [h] at e; cases e)).mono ?_
  rintro e w2 ⟨v2, rfl, ho_, hb_⟩
  rw [put2E]
  rw [put2A] at ho_
  have B2 := Lib.hid (bl_then B1.out hb_)
  have R1' := Lib.hid (R1.out.below hb_)
  obtain ⟨A2, c2, e2, hc2, r2⟩ := ho_.rd' (by simp)
  subst e2
  have R2 := Lib.hid r2
  clear r2 ho_ hb_ B1 R1
  go_wp2_with fail
  refine (segDiff_any A1 A2 c1 c2 [entA] [entA, entB] _ R1'.out R2.out (by simp) (by simp)).mono ?_
  rintro e w3 ⟨v3, rfl, ho_, hb_⟩
  rw [dif1E]
  rw [dif1A] at ho_
  have B3 := Lib.hid (bl_then B2.out hb_)
  obtain ⟨A3, c3, e3, hc3, r3⟩ := ho_.rd' (by show 1 * 48 ≤ _; omega)
  subst e3
  obtain ⟨ad, rfl, x0, x1, x2⟩ := dif_at r3 0 (by simp)
  simp only [List.getElem_cons_zero, Nat.zero_mul, Addr.add_zero'] at x0 x1 x2
  clear r3 ho_ hb_ B2 R1' R2
  go_wp2
  go_ret
  exact ⟨ret_bool (by simp; exact ⟨by rw [toList_eq]; rfl, by rw [toList_eq]; rfl, by rw [toList_eq]; rfl⟩), B3.out⟩
end Go.Proofs.Ytejodabmddcanaa
