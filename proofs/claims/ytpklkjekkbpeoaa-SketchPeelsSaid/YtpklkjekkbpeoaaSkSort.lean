/- DERIVED. Rows of items; the library's Sort over at most one item. -/
import Derived.Test.YtpklkjekkbpeoaaSkNew
import Derived.Test.YtpklkjekkbpeoaaShelf
import Derived.Deep.Cut
import Derived.Deep.CutRange
namespace Go.Proofs.Ytpklkjekkbpeoaa
open Go.RowKit
set_option linter.unusedVariables false
set_option linter.unusedSimpArgs false
attribute [local irreducible] mixN

def itK : GR.Kind It where
  e := 24
  s := 1
  b := 8
  enc := fun x => [.int .u64 (x.toNat : Int)]
  len := fun _ => rfl
  one := fun x u hu => by
    simp only [List.mem_cons, List.not_mem_nil, or_false] at hu
    subst hu; rfl
  hs := by decide
  hb := by decide
theorem it_info : (Try.prog.info? 24).map (fun i => (i.zero, i.size, i.bytes)) = some (some (.int .u64 0), 1, 8) := by kernel_rfl
theorem it_at {w : World} {A : Option Addr} {l : List It} (h : GR.Rd itK w A l) (i : Nat) (hi : i < l.length) : ∃ ad, A = some ad ∧ (ad.add i).block < w.heap.size ∧ w.cell? (ad.add i) = some (.int .u64 (l[i].toNat : Int)) := by
  obtain ⟨ad, e, hb, hc⟩ := h.at_ i hi
  refine ⟨ad, e, by rw [GR.block_of_add]; exact hb, ?_⟩
  have := hc 0 _ rfl
  simpa [itK] using this
/-- What Sort makes of a row of items. -/
def SortOk (m m' : List It) : Prop := ∀ (w : World) (B : Nat) (A : Option Addr) (c : Nat), GR.Own itK w B (.slice A m.length c) m →
  Calls Try.prog 41 #[.slice A m.length c] w fun e w' => e = .returned (.tuple #[]) ∧ GR.Own itK w' B (.slice A m.length c) m' ∧ w.grownBy w' (Value.slice A m.length c).ownBlock
set_option maxRecDepth 100000 in
set_option maxHeartbeats 3200000 in
theorem insert_small (A : Option Addr) (n c : Nat) (hn : n ≤ 1) (w : World) : Calls Try.prog 78 #[.slice A n c, .int .i64 0, .int .i64 (n : Int)] w fun e w' => e = .returned (.tuple #[]) ∧ w = w' := by
  have h1 : ¬ (1 : Int) < (n : Int) := by omega
  have HN := Lib.hid hn
  clear hn
  go_enter Try.func78, Try.ntmps78
  go_wp2_with fail
  go_loopw [6] (fun i w' => i = .int .i64 1 ∧ w' = w) (fun _ _ => 0)
  case atStart => exact ⟨rfl, rfl⟩
  case round =>
    obtain ⟨rfl, rfl⟩ := hrel
    go_wp2
    go_end0
    exact ⟨rfl, rfl⟩
set_option maxRecDepth 100000 in
set_option maxHeartbeats 3200000 in
theorem pdq_small (A : Option Addr) (n c : Nat) (lim : Int) (hn : n ≤ 1) (w : World) : Calls Try.prog 63 #[.slice A n c, .int .i64 0, .int .i64 (n : Int), .int .i64 lim] w fun e w' => e = .returned (.tuple #[]) ∧ w = w' := by
  have h1 : (n : Int) ≤ 12 := by omega
  go_enter Try.func63, Try.ntmps63
  go_wp2_with fail
  go_loopw [1, 2, 3, 8, 9] (fun s1 s2 s3 s8 s9 w' => s1 = .int .i64 0 ∧ s2 = .int .i64 (n : Int) ∧ s3 = .int .i64 lim ∧ s8 = .bool true ∧ s9 = .bool true ∧ w' = w) (fun _ _ _ _ _ _ => 0)
  case atStart => exact ⟨rfl, rfl, rfl, rfl, rfl, rfl⟩
  case round =>
    obtain ⟨rfl, rfl, rfl, rfl, rfl, rfl⟩ := hrel
    go_wp2_with (go_at_call 78; refine (insert_small A n c hn _).mono ?_; rintro e w1 ⟨rfl, rfl⟩)
    first | go_end0 | refine bodyPost_ret (results_none rfl _ _ _) rfl ?_
    exact ⟨rfl, rfl⟩
theorem sort_small (m : List It) (hm : m.length ≤ 1) : SortOk m m := by
  intro w B A c ho
  have hl : IntKind.u64.wrap (m.length : Int) = (m.length : Int) := IntWalk.u64_in _ (by omega)
  obtain ⟨q, hq⟩ : ∃ q : Nat, q = m.length := ⟨_, rfl⟩
  have HO := Lib.hid ho
  clear ho
  rw [← hq] at hl hm ⊢
  have HQ := Lib.hid hq
  clear hq
  go_enter Try.func41, Try.ntmps41
  go_wp2_with (first | (go_at_call 64; refine (Try.bits_Len (q : Int) w (by omega) (by omega)).mono ?_; rintro e w1 ⟨rfl, rfl⟩) | (go_at_call 63; refine (pdq_small A q c _ hm _).mono ?_; rintro e w1 ⟨rfl, rfl⟩))
  go_end0
  exact ⟨rfl, by rw [HQ.out]; exact HO.out, GR.grown_of_bl (Below.refl _ _) _⟩
end Go.Proofs.Ytpklkjekkbpeoaa
