/- DERIVED. The program's Put. -/
import Derived.Test.YtljfigikkajlnaaVm7
import Derived.Test.YtljfigikkajlnaaVDvPutP
import Derived.Test.YtljfigikkajlnaaVm11
import Derived.Test.YtljfigikkajlnaaVDvSearch
import Derived.Deep.Cut
import Derived.Deep.CutRange
namespace Go.Proofs.Ytljfigikkajlnaa
open Go.RowKit
set_option linter.unusedVariables false
set_option linter.unusedSimpArgs false
theorem put_ret0 {s ctx : List Dot} {l : List Sib} {a r : Int} {v : ByteArray} {g : Bool} (h : PutNo s l ctx a v g r) : Ending.returned (.tuple #[.agg #[.slice none 0 0, .slice none 0 0], .agg #[.int .u32 0, .int .u64 0], .int .i64 r]) =
    .returned (.tuple #[.agg #[.slice none 0 0, .slice none 0 0], .agg #[.int .u32 (putD s l ctx a v g).a, .int .u64 (putD s l ctx a v g).n], .int .i64 (putE s l ctx a v g)]) := by rw [h.he, h.hd]
theorem put_own0 {s ctx : List Dot} {l : List Sib} {a r : Int} {v : ByteArray} {g : Bool} (h : PutNo s l ctx a v g r) (w : World) (B : Nat) : OwnS w B (.slice none 0 0) (.slice none 0 0) (putA s l ctx a v g) (putL s l ctx a v g) := by
  rw [h.ha, h.hl]; exact ⟨GR.Own.nil _ _ _, GR.Own.nil _ _ _⟩
theorem put_ret1 {s ctx : List Dot} {l : List Sib} {a : Int} {v : ByteArray} {g : Bool} {x y : Value} (h : putE s l ctx a v g = 0) (k : putD s l ctx a v g = putDot s ctx a) : Ending.returned (.tuple #[.agg #[x, y], .agg #[.int .u32 a, .int .u64 (putN s ctx a + 1)], .int .i64 0]) =
    .returned (.tuple #[.agg #[x, y], .agg #[.int .u32 (putD s l ctx a v g).a, .int .u64 (putD s l ctx a v g).n], .int .i64 (putE s l ctx a v g)]) := by rw [h, k]; rfl
theorem chg_put {S : Nat → Prop} {w w' : World} {g i : Nat} {u : Value} (h : Chg S w w') (hg : S g) : Chg S w (w'.setCell ⟨g, i, none⟩ u) := h.then (chg_set i u (.inl hg))
theorem chg_drew {S : Nat → Prop} {w w' : World} (h : Chg S w w') : Chg S w w'.drew := h.then ⟨rfl, rfl, rfl, Nat.le_refl _, fun _ _ _ => rfl⟩
theorem chg_drewN {S : Nat → Prop} {w w' : World} (h : Chg S w w') (n : Nat) : Chg S w (w'.drewN n) := h.then ⟨rfl, rfl, rfl, Nat.le_refl _, fun _ _ _ => rfl⟩
namespace GR
variable {α : Type} {K : Kind α}
variable {P : Program} {ops : Array Oper} {o : Oper} {a : Act} {Q : Exit → Act → World → Prop}
/-- append(x[:n:n], y...): a row that is full goes into a new block. -/
theorem step_grow {w : World} {E : Prop} {K' : Act → World → Prop} {i : TypeInfo} {z : Value} (hgd : o.guard = none) (s x : Operand) (t : TypeId)
    (ho : o.op = .call { callee := .builtin .append, args := #[s, x], argTypes := #[t, t] })
    (ht : P.underlying t = some (.slice K.e)) (hi : P.info? K.e = some i) (hz : i.zero = some z) (hsize : i.size = K.s) (hby : i.bytes = K.b) (hzs : z.cells.size = K.s)
    (p : Addr) (n : Nat) (xs : List α) (hs : a.eval s = .slice (some p) n n) (hn : n = xs.length) (hp : ∀ j u, (cs K xs)[j]? = some u → w.cell? (p.add j) = some u)
    (q : Addr) (m c : Nat) (ys : List α) (hx : a.eval x = .slice (some q) m c) (hm : m = ys.length) (h0 : 0 < m) (hr : Rd K w (some q) ys)
    (hb : (xs.length + ys.length) * K.b ≤ 140737488355328)
    (h : ∀ v' w', Own K w' w.heap.size v' (xs ++ ys) → Below w.heap.size w w' → K' (a.put o.dst v') w') :
    if Region.wanted o (yielded ops a.tmps) = true then Oper.wp P o a w K' Q else E := by
  subst hn hm
  have hlen : xs.length + ys.length ≤ 140737488355328 := Nat.le_trans (Nat.le_mul_of_pos_right _ K.hb) hb
  obtain ⟨q', e, _, hq⟩ := hr.2.2 h0
  cases e
  have hw : Region.wanted o (yielded ops a.tmps) = true := by simp [Region.wanted, hgd]
  rw [if_pos hw]
  obtain ⟨v', w', hrun, h1, h2⟩ := run_append_arg_grows (P := P) w t o.type K.e i z K.s K.b ht hi hz hsize hby hzs K.hs p xs.length xs.length (cs K xs) (cs_length _) hp q ys.length c (cs K ys) (cs_length _) hq (by omega) (by simp only [maxLen]; omega) hb
  unfold Oper.wp execOp
  simp only [ho, resolve, invoke, builtin, Sem.run_bind, Sem.run_pure, Result.andThen_ok, List.map_toArray, List.map_cons, List.map_nil, hs, hx, hrun]
  refine h v' w' ?_ ⟨h2.os, h2.tape, h2.output, h2.size, fun k hk => h2.block k hk (by simp)⟩
  show w'.ownsRow w.heap.size K.e K.s v' (xs ++ ys).length (cs K (xs ++ ys))
  rw [List.length_append, cs_append]; exact h1
theorem lit_one (w : World) (B H : Nat) (hB : B ≤ w.heap.size) (hH : w.heap.size = H) (x : α) : Own K (w.alloc (.cells (K.enc x).toArray K.e)) B (.slice (some ⟨H, 0, none⟩) 1 1) [x] := by
  subst hH
  have := World.ownsRow_lit (base := B) (e := K.e) (size := K.s) w (K.enc x).toArray 1 hB (by simp [maxLen]) (by simp [K.len])
  simpa [Own, cs] using this
end GR
theorem own_reads {α : Type} {K : GR.Kind α} {w : World} {B n c : Nat} {ad : Addr} {l : List α} (h : GR.Own K w B (.slice (some ad) n c) l) (hb : l.length * K.b ≤ 140737488355328) (i : Nat) : ∀ j u, (GR.cs K (l.take i))[j]? = some u → w.cell? (ad.add j) = some u := fun j u hu => by
  have hr := (h.rd hb).2.2
  have hu2 : (GR.cs K l)[j]? = some u := by
    conv => lhs; rw [← List.take_append_drop i l, GR.cs_append]
    rw [List.getElem?_append_left (List.getElem?_eq_some_iff.1 hu).1]; exact hu
  have h0 : 0 < l.length := by
    rcases Nat.eq_zero_or_pos l.length with h0 | h0
    · obtain rfl := List.eq_nil_of_length_eq_zero h0
      simp [GR.cs] at hu2
    · exact h0
  obtain ⟨ad', e, _, hc⟩ := hr.2.2 h0
  cases e
  exact hc j u hu2
/-- The address of a slice's rest behind i siblings. -/
def scut (ad : Addr) (i c : Nat) : Addr := if c = i then ad else ad.add (i * 4)
set_option maxRecDepth 100000 in
theorem scut_run (ad : Addr) (i n c : Nat) (hi : i ≤ n) (W : World) : (Instr.slice 23 (.slice (some ad) n c) (some (.int .i64 i)) none none).run Try.prog W = .ok (.slice (some (scut ad i c)) (n - i) (c - i)) W := by
  have hs : Try.prog.underlying 23 = some (.slice (Try.prog.elem 23)) := by kernel_rfl
  have h2 : (sizeOf (Try.prog.elem 23)).run Try.prog W = .ok 4 W := by kernel_rfl
  rw [run_slice_l (P := Try.prog) W 23 (some ad) n c hs .i64 i (by omega) (by omega), h2]
  simp only [Result.andThen_ok, sliced, Int.toNat_natCast]
  congr 2
  show (if c = i then some ad else some (ad.add (i * 4))) = some (scut ad i c)
  unfold scut
  split <;> rfl
set_option maxRecDepth 100000 in
theorem scut_at (ad : Addr) (i n c : Nat) (hi : i ≤ n) (W : World) : (Instr.sliceAt 23 (.slice (some ad) n c) (some (.int .i64 i)) none none).run Try.prog W = .ok (.slice (some (scut ad i c)) (n - i) (c - i)) W := by
  have hs : Try.prog.underlying 23 = some (.slice (Try.prog.elem 23)) := by kernel_rfl
  rw [run_sliceAt_slice (P := Try.prog) W 23 _ _ _ _ hs]
  exact scut_run ad i n c hi W
set_option maxRecDepth 100000 in
theorem scap_run (ad : Addr) (i n c : Nat) (hi : i ≤ c) (W : World) : (Instr.slice 23 (.slice (some ad) n c) none (some (.int .i64 i)) (some (.int .i64 i))).run Try.prog W = .ok (.slice (some ad) i i) W := by
  have hs : Try.prog.underlying 23 = some (.slice (Try.prog.elem 23)) := by kernel_rfl
  have h2 : (sizeOf (Try.prog.elem 23)).run Try.prog W = .ok 4 W := by kernel_rfl
  rw [run_slice_hm (P := Try.prog) W 23 (some ad) n c hs .i64 .i64 i i (by omega) (by omega) (by omega), h2]
  simp only [Result.andThen_ok, sliced, Int.toNat_natCast, Nat.sub_zero]
  congr 2
  show (if i = 0 then some ad else some (ad.add (0 * 4))) = some ad
  rw [Nat.zero_mul, Addr.add_zero']; split <;> rfl
set_option maxRecDepth 100000 in
theorem scap_at (ad : Addr) (i n c : Nat) (hi : i ≤ c) (W : World) : (Instr.sliceAt 23 (.slice (some ad) n c) none (some (.int .i64 i)) (some (.int .i64 i))).run Try.prog W = .ok (.slice (some ad) i i) W := by
  have hs : Try.prog.underlying 23 = some (.slice (Try.prog.elem 23)) := by kernel_rfl
  rw [run_sliceAt_slice (P := Try.prog) W 23 _ _ _ _ hs]
  exact scap_run ad i n c hi W
set_option maxRecDepth 100000 in
set_option maxHeartbeats 25600000 in
theorem dvvPut_any (A B C : Option Addr) (c1 c2 c3 : Nat) (s : List Dot) (l : List Sib) (ctx : List Dot) (a : Int) (v : ByteArray) (g : Bool) (w : World) (hs : GR.Rd dotK w A s) (hl : GR.Rd sibK w B l) (hc : GR.Rd dotK w C ctx) (hcs : s.length ≤ c1) (hcc : ctx.length ≤ c3)
    (ns : ∀ d ∈ s, 0 ≤ d.n) (nl : ∀ x ∈ l, 0 ≤ x.d.n) (nc : ∀ d ∈ ctx, 0 ≤ d.n) :
    Calls Try.prog 37 #[.agg #[.slice A s.length c1, .slice B l.length c2], .slice C ctx.length c3, .int .u32 a, .string v, .bool g] w
      fun e w' => ∃ v1 v2, e = .returned (.tuple #[.agg #[v1, v2], .agg #[.int .u32 (putD s l ctx a v g).a, .int .u64 (putD s l ctx a v g).n], .int .i64 (putE s l ctx a v g)]) ∧ OwnS w' w.heap.size v1 v2 (putA s l ctx a v g) (putL s l ctx a v g) ∧ Below w.heap.size w w' := by
  obtain ⟨j0, hj0, jz0, jz1, jz2⟩ := info_parts sib_info
  have hml : l.length * 40 ≤ 140737488355328 := hl.max
  have HS1 := Lib.hid hs
  have HL1 := Lib.hid hl
  have HC1 := Lib.hid hc
  have NS := Lib.hid ns
  have NL := Lib.hid nl
  have NC := Lib.hid nc
  clear hs hl hc ns nl nc
  go_enter Try.func37, Try.ntmps37
  go_wp2_with fail
  obtain ⟨W1, hW1⟩ : ∃ W1 : World, W1 = ((w.alloc (.cells #[.slice A s.length c1, .slice B l.length c2] 25)).alloc (.cells #[.slice none 0 0, .slice none 0 0] 25)).alloc (.cells #[.int .u32 0, .int .u64 0] 41) := ⟨_, rfl⟩
  rw [← hW1]
  have LW : Hid (Below w.heap.size w W1) := Lib.hid (by rw [hW1]; exact (by repeat (first | exact Below.refl _ _ | refine bl_drewN ?_ _ | refine bl_drew ?_ | refine bl_alloc ?_ _)))
  have XA : Hid (GR.Blk W1 w.heap.size 25 #[.slice A s.length c1, .slice B l.length c2]) := Lib.hid (by rw [hW1]; exact ((GR.Blk.new _ _ _).alloc _).alloc _)
  have XB : Hid (GR.Blk W1 (w.heap.size + 1) 25 #[.slice none 0 0, .slice none 0 0]) := Lib.hid (by rw [hW1]; exact (new_at _ _ _ (by simp)).alloc _)
  have XC : Hid (GR.Blk W1 (w.heap.size + 1 + 1) 41 #[.int .u32 0, .int .u64 0]) := Lib.hid (by rw [hW1]; exact new_at _ _ _ (by simp))
  clear hW1
  have F1 := Lib.hid (HS.nil W1)
  have F2 := Lib.hid (HS.addB F1.out (g := w.heap.size) (t := 25) (cs := #[.slice A s.length c1, .slice B l.length c2]) (XA.out))
  clear F1
  have F3 := Lib.hid (HS.addB F2.out (g := w.heap.size + 1) (t := 25) (cs := #[.slice none 0 0, .slice none 0 0]) (XB.out))
  clear F2
  have F4 := Lib.hid (HS.addB F3.out (g := w.heap.size + 1 + 1) (t := 41) (cs := #[.int .u32 0, .int .u64 0]) (XC.out))
  clear F3
  have F5 := Lib.hid (F4.out.addR (HS1.out.below LW.out))
  clear F4
  have F6 := Lib.hid (F5.out.addR (HL1.out.below LW.out))
  clear F5
  have F7 := Lib.hid (F6.out.addR (HC1.out.below LW.out))
  clear F6
  have LW1 : Hid (w.heap.size + 1 + 1 < W1.heap.size) := Lib.hid XC.out.lt
  clear XA XB XC
  have BB := Lib.hid (Below.refl W1.heap.size W1)
  have ps_0 : W1.cell? ⟨w.heap.size, 0, none⟩ = some (.slice A s.length c1) := (F7.out.blk 5 rfl).cell 0
  have ps_1 : W1.cell? ⟨w.heap.size, 1, none⟩ = some (.slice B l.length c2) := (F7.out.blk 5 rfl).cell 1
  go_wp2_with fail
  clear ps_0 ps_1
  by_cases h1 : staB s l = false
  · skip
    refine (dvvValid_any A B c1 c2 s l _ (F7.out.rd 2 rfl) (F7.out.rd 1 rfl) NS.out NL.out).mono ?_
    rintro e w2 ⟨rfl, hb⟩
    have F8 := Lib.hid (F7.out.below hb)
    clear F7
    replace BB := Lib.hid (bl_then BB.out hb)
    clear hb
    rw [h1]
    have H1 := Lib.hid h1
    clear h1
    have ps_0 : w2.cell? ⟨w.heap.size, 0, none⟩ = some (.slice A s.length c1) := (F8.out.blk 5 rfl).cell 0
    have ps_1 : w2.cell? ⟨w.heap.size, 1, none⟩ = some (.slice B l.length c2) := (F8.out.blk 5 rfl).cell 1
    have HV := Lib.hid (put_sta (ctx := ctx) (a := a) (v := v) (g := g) H1.out)
    have pr_0 : w2.cell? ⟨w.heap.size + 1, 0, none⟩ = some (.slice none 0 0) := (F8.out.blk 4 rfl).cell 0
    have pr_1 : w2.cell? ⟨w.heap.size + 1, 1, none⟩ = some (.slice none 0 0) := (F8.out.blk 4 rfl).cell 1
    have pd_0 : w2.cell? ⟨w.heap.size + 1 + 1, 0, none⟩ = some (.int .u32 0) := (F8.out.blk 3 rfl).cell 0
    have pd_1 : w2.cell? ⟨w.heap.size + 1 + 1, 1, none⟩ = some (.int .u64 0) := (F8.out.blk 3 rfl).cell 1
    have pr_f0 := (F8.out.blk 4 rfl).frozen 0
    have pr_f1 := (F8.out.blk 4 rfl).frozen 1
    have pd_f0 := (F8.out.blk 3 rfl).frozen 0
    have pd_f1 := (F8.out.blk 3 rfl).frozen 1
    go_wp2
    try rw [Exit.noGoto_ret]
    exact bodyPost_ret (v := .tuple #[.agg #[.slice none 0 0, .slice none 0 0], .agg #[.int .u32 0, .int .u64 0], .int .i64 110]) (by simp [results, Try.results37, go_sem, pr_0, pr_1, pd_0, pd_1, pr_f0, pr_f1, pd_f0, pd_f1]) rfl ⟨_, _, put_ret0 HV.out, put_own0 HV.out _ _, (by repeat (first | exact bl_then LW.out BB.out | refine bl_drewN ?_ _ | refine bl_drew ?_ | refine bl_alloc ?_ _ | refine Below.setCell ?_ (by simp <;> omega) _))⟩
  · replace h1 : staB s l = true := by simpa using h1
    refine (dvvValid_any A B c1 c2 s l _ (F7.out.rd 2 rfl) (F7.out.rd 1 rfl) NS.out NL.out).mono ?_
    rintro e w2 ⟨rfl, hb⟩
    have F9 := Lib.hid (F7.out.below hb)
    clear F7
    replace BB := Lib.hid (bl_then BB.out hb)
    clear hb
    rw [h1]
    have H1 := Lib.hid h1
    clear h1
    have ps_0 : w2.cell? ⟨w.heap.size, 0, none⟩ = some (.slice A s.length c1) := (F9.out.blk 5 rfl).cell 0
    have ps_1 : w2.cell? ⟨w.heap.size, 1, none⟩ = some (.slice B l.length c2) := (F9.out.blk 5 rfl).cell 1
    go_wp2_with fail
    clear ps_0 ps_1
    by_cases h2 : vecB ctx = false
    · skip
      refine (vecValid_any C c3 ctx _ (F9.out.rd 0 rfl) NC.out).mono ?_
      rintro e w3 ⟨rfl, hb⟩
      have F10 := Lib.hid (F9.out.below hb)
      clear F9
      replace BB := Lib.hid (bl_then BB.out hb)
      clear hb
      rw [h2]
      have H2 := Lib.hid h2
      clear h2
      have ps_0 : w3.cell? ⟨w.heap.size, 0, none⟩ = some (.slice A s.length c1) := (F10.out.blk 5 rfl).cell 0
      have ps_1 : w3.cell? ⟨w.heap.size, 1, none⟩ = some (.slice B l.length c2) := (F10.out.blk 5 rfl).cell 1
      have HV := Lib.hid (put_vec (a := a) (v := v) (g := g) H1.out H2.out)
      have pr_0 : w3.cell? ⟨w.heap.size + 1, 0, none⟩ = some (.slice none 0 0) := (F10.out.blk 4 rfl).cell 0
      have pr_1 : w3.cell? ⟨w.heap.size + 1, 1, none⟩ = some (.slice none 0 0) := (F10.out.blk 4 rfl).cell 1
      have pd_0 : w3.cell? ⟨w.heap.size + 1 + 1, 0, none⟩ = some (.int .u32 0) := (F10.out.blk 3 rfl).cell 0
      have pd_1 : w3.cell? ⟨w.heap.size + 1 + 1, 1, none⟩ = some (.int .u64 0) := (F10.out.blk 3 rfl).cell 1
      have pr_f0 := (F10.out.blk 4 rfl).frozen 0
      have pr_f1 := (F10.out.blk 4 rfl).frozen 1
      have pd_f0 := (F10.out.blk 3 rfl).frozen 0
      have pd_f1 := (F10.out.blk 3 rfl).frozen 1
      go_wp2
      try rw [Exit.noGoto_ret]
      exact bodyPost_ret (v := .tuple #[.agg #[.slice none 0 0, .slice none 0 0], .agg #[.int .u32 0, .int .u64 0], .int .i64 100]) (by simp [results, Try.results37, go_sem, pr_0, pr_1, pd_0, pd_1, pr_f0, pr_f1, pd_f0, pd_f1]) rfl ⟨_, _, put_ret0 HV.out, put_own0 HV.out _ _, (by repeat (first | exact bl_then LW.out BB.out | refine bl_drewN ?_ _ | refine bl_drew ?_ | refine bl_alloc ?_ _ | refine Below.setCell ?_ (by simp <;> omega) _))⟩
    · replace h2 : vecB ctx = true := by simpa using h2
      refine (vecValid_any C c3 ctx _ (F9.out.rd 0 rfl) NC.out).mono ?_
      rintro e w3 ⟨rfl, hb⟩
      have F11 := Lib.hid (F9.out.below hb)
      clear F9
      replace BB := Lib.hid (bl_then BB.out hb)
      clear hb
      rw [h2]
      have H2 := Lib.hid h2
      clear h2
      have ps_0 : w3.cell? ⟨w.heap.size, 0, none⟩ = some (.slice A s.length c1) := (F11.out.blk 5 rfl).cell 0
      have ps_1 : w3.cell? ⟨w.heap.size, 1, none⟩ = some (.slice B l.length c2) := (F11.out.blk 5 rfl).cell 1
      by_cases h3 : 40 < v.size
      · have H3 : Hid (valB v g = false) := Lib.hid (by simp [valB]; omega)
        have v1 : decide (40 < (v.size : Int)) = true := by simp; omega
        have v2 : decide (40 < v.size) = true := by simp; omega
        clear h3
        have HV := Lib.hid (put_val (ctx := ctx) (a := a) H1.out H2.out H3.out)
        have pr_0 : w3.cell? ⟨w.heap.size + 1, 0, none⟩ = some (.slice none 0 0) := (F11.out.blk 4 rfl).cell 0
        have pr_1 : w3.cell? ⟨w.heap.size + 1, 1, none⟩ = some (.slice none 0 0) := (F11.out.blk 4 rfl).cell 1
        have pd_0 : w3.cell? ⟨w.heap.size + 1 + 1, 0, none⟩ = some (.int .u32 0) := (F11.out.blk 3 rfl).cell 0
        have pd_1 : w3.cell? ⟨w.heap.size + 1 + 1, 1, none⟩ = some (.int .u64 0) := (F11.out.blk 3 rfl).cell 1
        have pr_f0 := (F11.out.blk 4 rfl).frozen 0
        have pr_f1 := (F11.out.blk 4 rfl).frozen 1
        have pd_f0 := (F11.out.blk 3 rfl).frozen 0
        have pd_f1 := (F11.out.blk 3 rfl).frozen 1
        go_wp2
        try rw [Exit.noGoto_ret]
        exact bodyPost_ret (v := .tuple #[.agg #[.slice none 0 0, .slice none 0 0], .agg #[.int .u32 0, .int .u64 0], .int .i64 131]) (by simp [results, Try.results37, go_sem, pr_0, pr_1, pd_0, pd_1, pr_f0, pr_f1, pd_f0, pd_f1]) rfl ⟨_, _, put_ret0 HV.out, put_own0 HV.out _ _, (by repeat (first | exact bl_then LW.out BB.out | refine bl_drewN ?_ _ | refine bl_drew ?_ | refine bl_alloc ?_ _ | refine Below.setCell ?_ (by simp <;> omega) _))⟩
      · skip
        have v1 : decide (40 < (v.size : Int)) = false := by simp; omega
        have v2 : decide (40 < v.size) = false := by simp; omega
        by_cases h4 : g = true ∧ v.size ≠ 0
        · obtain ⟨rfl, h5⟩ := h4
          obtain ⟨v3, v4⟩ := nonempty_str h5
          have H3 : Hid (valB v true = false) := Lib.hid (by simp [valB, h5])
          clear h5 h3
          have HV := Lib.hid (put_val (ctx := ctx) (a := a) H1.out H2.out H3.out)
          have pr_0 : w3.cell? ⟨w.heap.size + 1, 0, none⟩ = some (.slice none 0 0) := (F11.out.blk 4 rfl).cell 0
          have pr_1 : w3.cell? ⟨w.heap.size + 1, 1, none⟩ = some (.slice none 0 0) := (F11.out.blk 4 rfl).cell 1
          have pd_0 : w3.cell? ⟨w.heap.size + 1 + 1, 0, none⟩ = some (.int .u32 0) := (F11.out.blk 3 rfl).cell 0
          have pd_1 : w3.cell? ⟨w.heap.size + 1 + 1, 1, none⟩ = some (.int .u64 0) := (F11.out.blk 3 rfl).cell 1
          have pr_f0 := (F11.out.blk 4 rfl).frozen 0
          have pr_f1 := (F11.out.blk 4 rfl).frozen 1
          have pd_f0 := (F11.out.blk 3 rfl).frozen 0
          have pd_f1 := (F11.out.blk 3 rfl).frozen 1
          go_wp2
          try rw [Exit.noGoto_ret]
          exact bodyPost_ret (v := .tuple #[.agg #[.slice none 0 0, .slice none 0 0], .agg #[.int .u32 0, .int .u64 0], .int .i64 131]) (by simp [results, Try.results37, go_sem, pr_0, pr_1, pd_0, pd_1, pr_f0, pr_f1, pd_f0, pd_f1]) rfl ⟨_, _, put_ret0 HV.out, put_own0 HV.out _ _, (by repeat (first | exact bl_then LW.out BB.out | refine bl_drewN ?_ _ | refine bl_drew ?_ | refine bl_alloc ?_ _ | refine Below.setCell ?_ (by simp <;> omega) _))⟩
        · have H3 := Lib.hid (val_ok h3 h4)
          have h5 := val_or h4
          clear h3 h4
          have HB1 := Lib.hid (cnt_bound s a)
          have HB2 := Lib.hid (cnt_bound ctx a)
          go_upto_region 5 with fail
          go_cut [34] from 35 (fun s34 wx => s34 = .bool false ∧ wx = w3)
          case first =>
            rcases h5 with rfl | ⟨rfl, h5⟩
            · go_wp2_with fail
              go_meet
              exact ⟨rfl, rfl⟩
            · obtain ⟨v3, v4⟩ := empty_str h5
              clear h5
              go_wp2_with fail
              go_meet
              exact ⟨rfl, rfl⟩
          case rest =>
            obtain ⟨rfl, hwc⟩ := hcut
            have hwd := hwc.symm
            clear hwc
            subst hwd
            clear h5 v1 v2
            have ps_0 : w3.cell? ⟨w.heap.size, 0, none⟩ = some (.slice A s.length c1) := (F11.out.blk 5 rfl).cell 0
            have ps_1 : w3.cell? ⟨w.heap.size, 1, none⟩ = some (.slice B l.length c2) := (F11.out.blk 5 rfl).cell 1
            go_upto_region 7 with fail
            go_cut [13] from 47 (fun s13 wx => s13 = .int .u64 (putN s ctx a + 1) ∧ Hid (Below w3.heap.size w3 wx))
            case first =>
              go_wp2_with fail
              clear ps_0 ps_1
              refine (count_any A c1 s a _ (F11.out.rd 2 rfl) NS.out).mono ?_
              rintro e w4 ⟨rfl, hb⟩
              have F12 := Lib.hid (F11.out.below hb)
              clear F11
              have BW3 : Hid (Below w3.heap.size w3 w4) := Lib.hid hb
              clear hb
              go_wp2_with fail
              refine (count_any C c3 ctx a _ (F12.out.rd 0 rfl) NC.out).mono ?_
              rintro e w5 ⟨rfl, hb⟩
              have BB5 := Lib.hid (bl_then BW3.out hb)
              clear hb
              have HM : Hid ((cnt s a ≤ cnt ctx a ∧ putN s ctx a = cnt ctx a) ∨ (cnt ctx a < cnt s a ∧ putN s ctx a = cnt s a)) := Lib.hid (by unfold putN; omega)
              have e1 : 0 ≤ cnt s a := HB1.out.1
              have e2 : cnt s a ≤ 1099511627776 := HB1.out.2
              have e3 : 0 ≤ cnt ctx a := HB2.out.1
              have e4 : cnt ctx a ≤ 1099511627776 := HB2.out.2
              have e5 : IntKind.u64.wrap (cnt ctx a + 1) = cnt ctx a + 1 := IntWalk.u64_in _ (by omega)
              have e6 : IntKind.u64.wrap (cnt s a + 1) = cnt s a + 1 := IntWalk.u64_in _ (by omega)
              go_wp2_with fail
              all_goals
                go_meet
                exact ⟨congrArg (Value.int .u64) (by have := HM.out; omega), Lib.hid (BB5.out)⟩
            case rest =>
              obtain ⟨rfl, hb⟩ := hcut
              obtain ⟨w5c, hw5c⟩ : ∃ x : World, x = wc := ⟨_, rfl⟩
              subst hw5c
              have F13 := Lib.hid (F11.out.below hb.out)
              clear F11
              replace BB := Lib.hid (bl_then BB.out hb.out)
              have HWS := Lib.hid (BB.out.size : W1.heap.size ≤ w5c.heap.size)
              clear hb
              have HPN := Lib.hid (putN_bound s ctx a)
              by_cases h4 : 1099511627776 ≤ putN s ctx a
              · have g1 : decide (1099511627776 < putN s ctx a + 1) = true := by simp; omega
                have H4 := Lib.hid h4
                clear h4
                have ps_0 : w5c.cell? ⟨w.heap.size, 0, none⟩ = some (.slice A s.length c1) := (F13.out.blk 5 rfl).cell 0
                have ps_1 : w5c.cell? ⟨w.heap.size, 1, none⟩ = some (.slice B l.length c2) := (F13.out.blk 5 rfl).cell 1
                have HV := Lib.hid (put_end H1.out H2.out H3.out H4.out)
                have pr_0 : w5c.cell? ⟨w.heap.size + 1, 0, none⟩ = some (.slice none 0 0) := (F13.out.blk 4 rfl).cell 0
                have pr_1 : w5c.cell? ⟨w.heap.size + 1, 1, none⟩ = some (.slice none 0 0) := (F13.out.blk 4 rfl).cell 1
                have pd_0 : w5c.cell? ⟨w.heap.size + 1 + 1, 0, none⟩ = some (.int .u32 0) := (F13.out.blk 3 rfl).cell 0
                have pd_1 : w5c.cell? ⟨w.heap.size + 1 + 1, 1, none⟩ = some (.int .u64 0) := (F13.out.blk 3 rfl).cell 1
                have pr_f0 := (F13.out.blk 4 rfl).frozen 0
                have pr_f1 := (F13.out.blk 4 rfl).frozen 1
                have pd_f0 := (F13.out.blk 3 rfl).frozen 0
                have pd_f1 := (F13.out.blk 3 rfl).frozen 1
                go_wp2
                try rw [Exit.noGoto_ret]
                exact bodyPost_ret (v := .tuple #[.agg #[.slice none 0 0, .slice none 0 0], .agg #[.int .u32 0, .int .u64 0], .int .i64 101]) (by simp [results, Try.results37, go_sem, pr_0, pr_1, pd_0, pd_1, pr_f0, pr_f1, pd_f0, pd_f1]) rfl ⟨_, _, put_ret0 HV.out, put_own0 HV.out _ _, (by repeat (first | exact bl_then LW.out BB.out | refine bl_drewN ?_ _ | refine bl_drew ?_ | refine bl_alloc ?_ _ | refine Below.setCell ?_ (by simp <;> omega) _))⟩
              · skip
                have g1 : decide (1099511627776 < putN s ctx a + 1) = false := by simp; omega
                have g2 : IntKind.u64.wrap (putN s ctx a + 1) = putN s ctx a + 1 := IntWalk.u64_in _ (by have := HPN.out; omega)
                have H4 : Hid (putN s ctx a < 1099511627776) := Lib.hid (by omega)
                clear h4
                have ps_0 : w5c.cell? ⟨w.heap.size, 0, none⟩ = some (.slice A s.length c1) := (F13.out.blk 5 rfl).cell 0
                have ps_1 : w5c.cell? ⟨w.heap.size, 1, none⟩ = some (.slice B l.length c2) := (F13.out.blk 5 rfl).cell 1
                have ps_lt : w.heap.size < w5c.heap.size := (F13.out.blk 5 rfl).lt
                go_wp2_with fail
                clear ps_0 ps_1 ps_lt
                obtain ⟨W6, hW6⟩ : ∃ W : World, W = w5c.alloc (.cells #[.int .u32 a, .int .u64 (putN s ctx a + 1)] 41) := ⟨_, rfl⟩
                rw [← hW6]
                have L6 : Hid (Below w5c.heap.size w5c W6) := Lib.hid (by rw [hW6]; exact (by repeat (first | exact Below.refl _ _ | refine bl_drewN ?_ _ | refine bl_drew ?_ | refine bl_alloc ?_ _)))
                have X6 : Hid (GR.Blk W6 w5c.heap.size 41 #[.int .u32 a, .int .u64 (putN s ctx a + 1)]) := Lib.hid (by rw [hW6]; exact GR.Blk.new _ _ _)
                clear hW6 g1 g2
                have F14 := Lib.hid (F13.out.below L6.out)
                clear F13
                replace BB := Lib.hid (bl_then BB.out L6.out)
                have HWC : Hid (w.heap.size + 1 + 1 < w5c.heap.size) := Lib.hid (by have h1 := LW1.out; have h2 := HWS.out; omega)
                have F15 := Lib.hid (HS.addB F14.out (g := w5c.heap.size) (t := 41) (cs := #[.int .u32 a, .int .u64 (putN s ctx a + 1)]) (X6.out))
                clear F14
                refine (max_any A C c1 c3 s ctx _ (F15.out.rd 3 rfl) (F15.out.rd 1 rfl) hcs hcc NS.out NC.out).mono ?_
                rintro e w7 ⟨vx, rfl, ho, hb⟩
                have F16 := Lib.hid (F15.out.below hb)
                clear F15
                replace BB := Lib.hid (bl_then BB.out hb)
                clear hb
                have HW7 : W1.heap.size ≤ w7.heap.size := BB.out.size
                rcases max_err (sta_ok H1.out).1 H2.out with ⟨hx, hxe, hxl⟩ | ⟨hx, hxe⟩
                · rw [hxe]
                  rw [hxl] at ho
                  have H5 : Hid (¬ 64 < (vmax s ctx).length) := Lib.hid (by omega)
                  obtain ⟨As, ns', cs, rfl⟩ := own_slice ho (by show (vmax s ctx).length * 16 ≤ _; omega)
                  obtain rfl : ns' = (vmax s ctx).length := own_n' ho
                  have HV1 := Lib.hid (vmax_vec (sta_ok H1.out).1 H2.out hx)
                  have CS := Lib.hid (GR.Own.rd ho (show (vmax s ctx).length * 16 ≤ 140737488355328 by omega)).2.1
                  have RS := Lib.hid (GR.Own.rd ho (show (vmax s ctx).length * 16 ≤ 140737488355328 by omega)).2.2
                  clear ho hx hxe hxl
                  have F17 := Lib.hid (F16.out.addR (RS.out))
                  clear F16
                  have pz_0 : w7.cell? ⟨w5c.heap.size, 0, none⟩ = some (.int .u32 a) := (F17.out.blk 1 rfl).cell 0
                  have pz_1 : w7.cell? ⟨w5c.heap.size, 1, none⟩ = some (.int .u64 (putN s ctx a + 1)) := (F17.out.blk 1 rfl).cell 1
                  have pz_lt : w5c.heap.size < w7.heap.size := (F17.out.blk 1 rfl).lt
                  go_wp2_with fail
                  clear pz_0 pz_1 pz_lt
                  obtain ⟨W8, hW8⟩ : ∃ W : World, W = w7.alloc (.cells #[.int .u32 a, .int .u64 (putN s ctx a + 1)] 41) := ⟨_, rfl⟩
                  rw [← hW8]
                  have L8 : Hid (Below w7.heap.size w7 W8) := Lib.hid (by rw [hW8]; exact (by repeat (first | exact Below.refl _ _ | refine bl_drewN ?_ _ | refine bl_drew ?_ | refine bl_alloc ?_ _)))
                  have R8 : Hid (GR.Rd dotK W8 (some ⟨w7.heap.size, 0, none⟩) [putDot s ctx a]) := Lib.hid (by rw [hW8]; exact GR.rd_new (K := dotK) (putDot s ctx a) rfl (by show 16 ≤ 140737488355328; omega))
                  clear hW8
                  have F18 := Lib.hid (F17.out.below L8.out)
                  clear F17
                  replace BB := Lib.hid (bl_then BB.out L8.out)
                  have F19 := Lib.hid (F18.out.addR (R8.out))
                  clear F18
                  have DV := Lib.hid (dot_vec (x := putDot s ctx a) (show 1 ≤ putN s ctx a + 1 by have := HPN.out; omega) (show putN s ctx a + 1 ≤ 1099511627776 by have := H4.out; omega))
                  refine (max_any As (some ⟨w7.heap.size, 0, none⟩) cs 1 (vmax s ctx) [putDot s ctx a] _ (F19.out.rd 1 rfl) (F19.out.rd 0 rfl) CS.out (Nat.le_refl _) (vmax_pos _ _ NS.out NC.out) (fun d hd => by rw [List.mem_singleton.1 hd]; show 0 ≤ putN s ctx a + 1; have := HPN.out; omega)).mono ?_
                  rintro e w9 ⟨vx, rfl, ho, hb⟩
                  have F20 := Lib.hid (F19.out.below hb)
                  clear F19
                  replace BB := Lib.hid (bl_then BB.out hb)
                  clear hb
                  rcases max_err HV1.out DV.out with ⟨hx, hxe, hxl⟩ | ⟨hx, hxe⟩
                  · rw [hxe]
                    rw [hxl] at ho
                    have H6 : Hid (¬ 64 < (vmax (vmax s ctx) [putDot s ctx a]).length) := Lib.hid (by omega)
                    obtain ⟨Am, nm', cm, rfl⟩ := own_slice ho (by show (vmax (vmax s ctx) [putDot s ctx a]).length * 16 ≤ _; omega)
                    obtain rfl : nm' = (vmax (vmax s ctx) [putDot s ctx a]).length := own_n' ho
                    have OM : Hid (GR.Own dotK w9 W1.heap.size (.slice Am (vmax (vmax s ctx) [putDot s ctx a]).length cm) (vmax (vmax s ctx) [putDot s ctx a])) := Lib.hid (ho.base (by have h1 : W1.heap.size ≤ w7.heap.size := HW7; have h2 := L8.out.size; omega))
                    clear ho hx hxe hxl
                    have F21 := Lib.hid (F20.out.addW (OM.out))
                    clear F20
                    have ps_0 : w9.cell? ⟨w.heap.size, 0, none⟩ = some (.slice A s.length c1) := (F21.out.blk 9 rfl).cell 0
                    have ps_1 : w9.cell? ⟨w.heap.size, 1, none⟩ = some (.slice B l.length c2) := (F21.out.blk 9 rfl).cell 1
                    have pz_0 : w9.cell? ⟨w5c.heap.size, 0, none⟩ = some (.int .u32 a) := (F21.out.blk 3 rfl).cell 0
                    have pz_1 : w9.cell? ⟨w5c.heap.size, 1, none⟩ = some (.int .u64 (putN s ctx a + 1)) := (F21.out.blk 3 rfl).cell 1
                    have hl64 : l.length ≤ 64 := (sta_ok H1.out).2.1
                    have e1 : IntKind.i64.wrap ((l.length : Int) + 1) = (l.length : Int) + 1 := IntWalk.i64_in _ (by omega)
                    go_wp2_with (refine wpList_make_own w9 rfl (.const (.int .i64 0)) (.tmp 87) 23 rfl w9.heap.size 67 j0 _ 4 Try.underlying23 hj0 jz0 jz1 .i64 .i64 ((l.length : Int) + 1) (l.length + 1) rfl rfl (by omega) (by rw [jz2]; omega) (by simp only [maxLen]; omega) (Nat.le_refl _) ?_; intro w10 O_ G_; have O10 : Hid (GR.Own sibK w10 w9.heap.size (.slice (some ⟨w9.heap.size, 0, none⟩) 0 (l.length + 1)) []) := Lib.hid O_; have G10 := Lib.hid (GR.bl_of_grown (Below.refl w9.heap.size w9) G_ (fun b hb => by cases hb)); have X10 : w10.cell? ⟨w.heap.size, 1, none⟩ = some (.slice B l.length c2) := (G10.out.cell (p := ⟨w.heap.size, 1, none⟩) (F21.out.blk 9 rfl).lt).trans ps_1; clear O_ G_)
                    clear X10
                    clear ps_0 ps_1 pz_0 pz_1
                    go_loopw [17, 92] (fun v0 i w' => ∃ (k g' cap : Nat) (acc : List Sib), v0 = .slice (some ⟨g', 0, none⟩) acc.length cap ∧ i = .int .i64 k ∧ k ≤ l.length ∧ acc.length ≤ cap ∧ Hid (acc = keepS ctx (l.take k)) ∧ Hid (GR.Own sibK w' w9.heap.size (.slice (some ⟨g', 0, none⟩) acc.length cap) acc) ∧ Hid (Below w9.heap.size w9 w')) (fun _ i _ => l.length - (intOf i).toNat)
                    case atStart => exact ⟨0, w9.heap.size, l.length + 1, [], rfl, rfl, Nat.zero_le _, Nat.zero_le _, Lib.hid (by simp [keepS]), O10, G10⟩
                    case round =>
                      clear O10 G10
                      obtain ⟨k, g', cap, acc, rfl, rfl, hk, hcap, hacc, ho, hb⟩ := hrel
                      have hbs : w9.heap.size ≤ wr.heap.size := hb.out.size
                      by_cases hlt : k < l.length
                      · have i0 : (0 : Int) ≤ (k : Int) := by omega
                        have i1 : (k : Int) < (l.length : Int) := by omega
                        obtain ⟨ad, eB, _, x0, x1, x2, x3⟩ := sib_at (GR.Rd.below (F21.out.rd 5 rfl) hb.out) k hlt
                        subst eB
                        have hln : 0 ≤ l[k].d.n := NL.out _ (List.getElem_mem hlt)
                        go_wp2_with fail
                        obtain ⟨W11, hW11⟩ : ∃ W : World, W = wr.alloc (.cells #[.int .u32 l[k].d.a, .int .u64 l[k].d.n, .bool l[k].gone, .string l[k].v] 67) := ⟨_, rfl⟩
                        rw [← hW11]
                        have L11 : Hid (Below wr.heap.size wr W11) := Lib.hid (by rw [hW11]; exact (by repeat (first | exact Below.refl _ _ | refine bl_drewN ?_ _ | refine bl_drew ?_ | refine bl_alloc ?_ _)))
                        have X11 : Hid (GR.Blk W11 wr.heap.size 67 #[.int .u32 l[k].d.a, .int .u64 l[k].d.n, .bool l[k].gone, .string l[k].v]) := Lib.hid (by rw [hW11]; exact GR.Blk.new _ _ _)
                        clear hW11 x0 x1 x2 x3
                        have B11 := Lib.hid (hb.out.trans (L11.out.mono hbs))
                        by_cases hcv : cov ctx l[k].d = true
                        · refine (covers_is C c3 ctx l[k].d true hcv _ (GR.Rd.below (F21.out.rd 4 rfl) B11.out) NC.out hln).mono ?_
                          rintro e w12 ⟨rfl, hb12⟩
                          have B12 := Lib.hid (B11.out.trans (hb12.mono B11.out.size))
                          have O12 := Lib.hid ((ho.out.below L11.out).below hb12)
                          have HK := Lib.hid (keep_snoc_yes hlt hcv)
                          clear hb12 hcv
                          go_wp2
                          go_roundw
                          case rel => exact ⟨k + 1, g', cap, acc, rfl, by go_num, by omega, hcap, Lib.hid (by rw [HK.out]; exact hacc.out), O12, B12⟩
                          case measure => simp [intOf]; omega
                        · have hcv' : cov ctx l[k].d = false := by simpa using hcv
                          clear hcv
                          refine (covers_is C c3 ctx l[k].d false hcv' _ (GR.Rd.below (F21.out.rd 4 rfl) B11.out) NC.out hln).mono ?_
                          rintro e w12 ⟨rfl, hb12⟩
                          have B12 := Lib.hid (B11.out.trans (hb12.mono B11.out.size))
                          have O12 := Lib.hid ((ho.out.below L11.out).below hb12)
                          have X12 := Lib.hid (X11.out.below hb12 X11.out.lt)
                          have HK := Lib.hid (keep_snoc_no hlt hcv')
                          have y0 : w12.cell? ⟨wr.heap.size, 0, none⟩ = some (.int .u32 l[k].d.a) := X12.out.cell 0
                          have y1 : w12.cell? ⟨wr.heap.size, 1, none⟩ = some (.int .u64 l[k].d.n) := X12.out.cell 1
                          have y2 : w12.cell? ⟨wr.heap.size, 2, none⟩ = some (.bool l[k].gone) := X12.out.cell 2
                          have y3 : w12.cell? ⟨wr.heap.size, 3, none⟩ = some (.string l[k].v) := X12.out.cell 3
                          have b12 : w9.heap.size ≤ w12.heap.size := B12.out.size
                          have hal : acc.length ≤ 64 := by rw [hacc.out]; exact Nat.le_trans (keep_len _ _) (by simp; omega)
                          clear hb12 hcv'
                          go_wp2_with (at_builtin; refine GR.app_all (K := sibK) rfl (.tmp 101) (.tmp 103) _ rfl Try.underlying23 hj0 jz0 jz1 jz2 rfl w9.heap.size _ acc rfl (O12.out.alloc _) _ 1 1 [l[k]] rfl rfl (GR.rd_new (K := sibK) l[k] rfl (by show 40 ≤ 140737488355328; omega)) (by show (acc.length + 1) * 40 ≤ _; omega) (Nat.le_trans b12 (by simp)) ?_; intro v13 w13 ho13 hg13 hat13; obtain ⟨g13, cap13, rfl, hc13, _⟩ := own_lit ho13 (acc.length + 1) (by simp) (by omega); have O13 := Lib.hid ho13; have B13 := Lib.hid (B12.out.trans (Below.grown (B := w9.heap.size) (Below.refl w9.heap.size w12 |>.alloc b12 _) hg13 (Nat.le_trans b12 (by simp)) (fun b hb => (O12.out.lt b hb).1))); clear ho13 hg13 hat13)
                          go_roundw
                          case rel => exact ⟨k + 1, g13, cap13, acc ++ [l[k]], by simp, by go_num, by omega, by simpa using hc13, Lib.hid (by rw [HK.out, ← hacc.out]), Lib.hid (by simpa using O13.out), B13⟩
                          case measure => simp [intOf]; omega
                      · obtain rfl : k = l.length := by omega
                        have HK : Hid (acc = keepS ctx l) := Lib.hid (by rw [hacc.out, List.take_length])
                        have hal : acc.length ≤ 64 := by rw [HK.out]; exact Nat.le_trans (keep_len _ _) hl64
                        have F22 := Lib.hid (F21.out.below hb.out)
                        clear F21
                        replace BB := Lib.hid (bl_then BB.out hb.out)
                        have pz_0 : wr.cell? ⟨w5c.heap.size, 0, none⟩ = some (.int .u32 a) := (F22.out.blk 3 rfl).cell 0
                        have pz_1 : wr.cell? ⟨w5c.heap.size, 1, none⟩ = some (.int .u64 (putN s ctx a + 1)) := (F22.out.blk 3 rfl).cell 1
                        go_wp2_with fail
                        clear pz_0 pz_1
                        refine (searchP_any (some ⟨g', 0, none⟩) cap acc (putDot s ctx a) _ (GR.Own.rd ho.out (show acc.length * 40 ≤ 140737488355328 by omega)).2.2).mono ?_
                        rintro e w14 ⟨⟨i, ok, rfl, hi, hf, _⟩, hb14⟩
                        have HI := Lib.hid (show acc.take i ++ putX s ctx a v g :: acc.drop i = insS (putX s ctx a v g) acc from by
                          have := hf (by rw [HK.out]; exact keep_ris (sris_of H1.out))
                          exact ins_at hi this.1 this.2)
                        have O14 := Lib.hid (ho.out.below hb14)
                        have HW14 : Hid (W1.heap.size ≤ w14.heap.size) := Lib.hid (Nat.le_trans BB.out.size hb14.size)
                        have F23 := Lib.hid (F22.out.below hb14)
                        clear F22
                        replace BB := Lib.hid (bl_then BB.out hb14)
                        clear hb14 hf hacc hb hbs
                        have hca : i ≤ cap := Nat.le_trans hi hcap
                        have sc1 := scut_run ⟨g', 0, none⟩ i acc.length cap hi
                        have sc2 := scut_at ⟨g', 0, none⟩ i acc.length cap hi
                        have sp1 := scap_run ⟨g', 0, none⟩ i acc.length cap hca
                        have sp2 := scap_at ⟨g', 0, none⟩ i acc.length cap hca
                        have RD := Lib.hid ((GR.Own.rd O14.out (show acc.length * 40 ≤ 140737488355328 by omega)).2.2.drop i cap hcap hi (scut ⟨g', 0, none⟩ i cap) (fun h => by unfold scut; rw [if_neg (by omega)]; rfl))
                        have KZ0 : Hid (w14.cell? ⟨w5c.heap.size, 0, none⟩ = some (.int .u32 a)) := Lib.hid ((F23.out.blk 3 rfl).cell 0)
                        have KZ1 : Hid (w14.cell? ⟨w5c.heap.size, 1, none⟩ = some (.int .u64 (putN s ctx a + 1))) := Lib.hid ((F23.out.blk 3 rfl).cell 1)
                        have HR := Lib.hid (Below.refl w14.heap.size w14)
                        go_wp2
                        refine wp_region_held_drew (S := fun w' => w'.cell? ⟨w5c.heap.size, 0, none⟩ = some (.int .u32 a) ∧ w'.cell? ⟨w5c.heap.size, 1, none⟩ = some (.int .u64 (putN s ctx a + 1))) (by kernel_rfl) ?_ (fun hHeld => ?_)
                        · exact ⟨KZ0.out, KZ1.out⟩
                        refine wpAnyH_take (i := 0) (oi := { dst := some 112, op := Op.move (Operand.tmp 17), type := 23, pos := "dvv.go:137", after := #[], guard := none }) (v := ?_) rfl (by kernel_rfl) (by kernel_rfl) (by kernel_rfl) (fun _ _ _ h => h) (Or.inl ⟨by rfl, ?_⟩) (by assumption) ?_
                        rotate_left
                        · intro w_ hSw
                          (try dsimp only at hSw)
                          go_simp
                          first | done | with_reducible rfl
                        try simp only [Act.put, List.setIfInBounds_toArray, List.set_cons_zero, List.set_cons_succ]
                        refine wpAnyH_take (i := 1) (oi := { dst := some 113, op := Op.move (Operand.tmp 20), type := 3, pos := "dvv.go:137", after := #[], guard := none }) (v := ?_) rfl (by kernel_rfl) (by kernel_rfl) (by kernel_rfl) (fun _ _ _ h => h) (Or.inl ⟨by rfl, ?_⟩) (by assumption) ?_
                        rotate_left
                        · intro w_ hSw
                          (try dsimp only at hSw)
                          go_simp
                          first | done | with_reducible rfl
                        try simp only [Act.put, List.setIfInBounds_toArray, List.set_cons_zero, List.set_cons_succ]
                        refine wpAnyH_take (i := 2) (oi := { dst := some 114, op := Op.move (Operand.tmp 20), type := 3, pos := "dvv.go:137", after := #[], guard := none }) (v := ?_) rfl (by kernel_rfl) (by kernel_rfl) (by kernel_rfl) (fun _ _ _ h => h) (Or.inl ⟨by rfl, ?_⟩) (by assumption) ?_
                        rotate_left
                        · intro w_ hSw
                          (try dsimp only at hSw)
                          go_simp
                          first | done | with_reducible rfl
                        try simp only [Act.put, List.setIfInBounds_toArray, List.set_cons_zero, List.set_cons_succ]
                        refine wpAnyH_take (i := 3) (oi := { dst := some 115, op := Op.slice 23 (Operand.tmp 112) none (some (Operand.tmp 113)) (some (Operand.tmp 114)), type := 23, pos := "dvv.go:137", after := #[{ on := 0, ground := Ground.data }, { on := 1, ground := Ground.data }, { on := 2, ground := Ground.data }], guard := none }) (v := ?_) rfl (by kernel_rfl) (by kernel_rfl) (by kernel_rfl) (fun _ _ _ h => h) (Or.inl ⟨by rfl, ?_⟩) (by assumption) ?_
                        rotate_left
                        · intro w_ hSw
                          (try dsimp only at hSw)
                          go_simp
                          first | done | with_reducible rfl
                        try simp only [Act.put, List.setIfInBounds_toArray, List.set_cons_zero, List.set_cons_succ]
                        refine wpAnyH_take (i := 4) (oi := { dst := some 116, op := Op.load 41 (Operand.tmp 14), type := 41, pos := "dvv.go:137", after := #[], guard := none }) (v := ?_) rfl (by kernel_rfl) (by kernel_rfl) (by kernel_rfl) (fun _ _ _ h => h) (Or.inl ⟨by rfl, ?_⟩) (by assumption) ?_
                        rotate_left
                        · intro w_ hSw
                          (try dsimp only at hSw)
                          go_simp
                          first | done | with_reducible rfl
                        try simp only [Act.put, List.setIfInBounds_toArray, List.set_cons_zero, List.set_cons_succ]
                        refine wpAnyH_take (i := 5) (oi := { dst := some 117, op := Op.move (Operand.tmp 4), type := 4, pos := "dvv.go:137", after := #[], guard := none }) (v := ?_) rfl (by kernel_rfl) (by kernel_rfl) (by kernel_rfl) (fun _ _ _ h => h) (Or.inl ⟨by rfl, ?_⟩) (by assumption) ?_
                        rotate_left
                        · intro w_ hSw
                          (try dsimp only at hSw)
                          go_simp
                          first | done | with_reducible rfl
                        try simp only [Act.put, List.setIfInBounds_toArray, List.set_cons_zero, List.set_cons_succ]
                        refine wpAnyH_take (i := 6) (oi := { dst := some 118, op := Op.move (Operand.tmp 3), type := 9, pos := "dvv.go:137", after := #[], guard := none }) (v := ?_) rfl (by kernel_rfl) (by kernel_rfl) (by kernel_rfl) (fun _ _ _ h => h) (Or.inl ⟨by rfl, ?_⟩) (by assumption) ?_
                        rotate_left
                        · intro w_ hSw
                          (try dsimp only at hSw)
                          go_simp
                          first | done | with_reducible rfl
                        try simp only [Act.put, List.setIfInBounds_toArray, List.set_cons_zero, List.set_cons_succ]
                        refine wpAnyH_take (i := 7) (oi := { dst := some 119, op := Op.build 67 #[(0, Operand.tmp 116), (1, Operand.tmp 117), (2, Operand.tmp 118)], type := 67, pos := "dvv.go:137", after := #[{ on := 4, ground := Ground.data }, { on := 5, ground := Ground.data }, { on := 6, ground := Ground.data }], guard := none }) (v := ?_) rfl (by kernel_rfl) (by kernel_rfl) (by kernel_rfl) (fun _ _ _ h => h) (Or.inl ⟨by rfl, ?_⟩) (by assumption) ?_
                        rotate_left
                        · intro w_ hSw
                          (try dsimp only at hSw)
                          go_simp
                          first | done | with_reducible rfl
                        try simp only [Act.put, List.setIfInBounds_toArray, List.set_cons_zero, List.set_cons_succ]
                        refine wpAnyH_take (i := 9) (oi := { dst := some 121, op := Op.move (Operand.tmp 17), type := 23, pos := "dvv.go:137", after := #[], guard := none }) (v := ?_) rfl (by kernel_rfl) (by kernel_rfl) (by kernel_rfl) (fun _ _ _ h => h) (Or.inl ⟨by rfl, ?_⟩) (by assumption) ?_
                        rotate_left
                        · intro w_ hSw
                          (try dsimp only at hSw)
                          go_simp
                          first | done | with_reducible rfl
                        try simp only [Act.put, List.setIfInBounds_toArray, List.set_cons_zero, List.set_cons_succ]
                        refine wpAnyH_take (i := 10) (oi := { dst := some 122, op := Op.move (Operand.tmp 20), type := 3, pos := "dvv.go:137", after := #[], guard := none }) (v := ?_) rfl (by kernel_rfl) (by kernel_rfl) (by kernel_rfl) (fun _ _ _ h => h) (Or.inl ⟨by rfl, ?_⟩) (by assumption) ?_
                        rotate_left
                        · intro w_ hSw
                          (try dsimp only at hSw)
                          go_simp
                          first | done | with_reducible rfl
                        try simp only [Act.put, List.setIfInBounds_toArray, List.set_cons_zero, List.set_cons_succ]
                        refine wpAnyH_take (i := 11) (oi := { dst := some 123, op := Op.slice 23 (Operand.tmp 121) (some (Operand.tmp 122)) none none, type := 23, pos := "dvv.go:137", after := #[{ on := 9, ground := Ground.data }, { on := 10, ground := Ground.data }], guard := none }) (v := ?_) rfl (by kernel_rfl) (by kernel_rfl) (by kernel_rfl) (fun _ _ _ h => h) (Or.inl ⟨by rfl, ?_⟩) (by assumption) ?_
                        rotate_left
                        · intro w_ hSw
                          (try dsimp only at hSw)
                          go_simp
                          first | done | with_reducible rfl
                        try simp only [Act.put, List.setIfInBounds_toArray, List.set_cons_zero, List.set_cons_succ]
                        refine wpAnyH_ready (rs := [8]) (by kernel_rfl) (by simp) ?_
                        refine AllReadyH.cons (o := { dst := some 120, op := Op.buildSlice 23 1 #[(0, Operand.tmp 119)], type := 23, pos := "dvv.go:137", after := #[{ on := 7, ground := Ground.data }], guard := none }) rfl (fun K hK => ?_) (AllReadyH.nil)
                        go_simp
                        skip
                        refine hK.out _ _ ?_ (fun hHeld => ?_)
                        · exact ⟨(Below.cell (p := ⟨w5c.heap.size, 0, none⟩) (by repeat (first | exact HR.out | refine bl_drewN ?_ _ | refine bl_drew ?_ | refine bl_alloc ?_ _)) (World.block_lt_of_cell? w14 _ KZ0.out)).trans KZ0.out, (Below.cell (p := ⟨w5c.heap.size, 1, none⟩) (by repeat (first | exact HR.out | refine bl_drewN ?_ _ | refine bl_drew ?_ | refine bl_alloc ?_ _)) (World.block_lt_of_cell? w14 _ KZ1.out)).trans KZ1.out⟩
                        clear hK K
                        try simp only [Act.put, List.setIfInBounds_toArray, List.set_cons_zero, List.set_cons_succ]
                        refine wpAnyH_ready (rs := [12]) (by kernel_rfl) (by simp) ?_
                        refine AllReadyH.cons (o := { dst := some 124, op := Op.call { callee := Callee.builtin Builtin.append, args := #[Operand.tmp 120, Operand.tmp 123], argTypes := #[23, 23] }, type := 23, pos := "dvv.go:137", after := #[{ on := 8, ground := Ground.data }, { on := 11, ground := Ground.data }], guard := none }) rfl (fun K hK => ?_) (AllReadyH.nil)
                        refine GR.step_all (K := sibK) rfl (.tmp 120) (.tmp 123) _ rfl Try.underlying23 hj0 jz0 jz1 jz2 rfl w14.heap.size _ [putX s ctx a v g] rfl (by repeat (first | exact GR.lit_one (K := sibK) _ _ _ (by simp) (by simp) (putX s ctx a v g) | refine GR.Own.drewN ?_ _ | refine GR.Own.drew ?_ | refine GR.Own.alloc ?_ _)) _ _ (cap - i) (acc.drop i) rfl (by simp) (GR.Rd.below RD.out (by repeat (first | exact HR.out | refine bl_drewN ?_ _ | refine bl_drew ?_ | refine bl_alloc ?_ _))) (by show ([putX s ctx a v g].length + (acc.drop i).length) * 40 ≤ _; simp only [List.length_drop, List.length_singleton]; omega) (Below.size (w := w14) (by repeat (first | exact HR.out | refine bl_drewN ?_ _ | refine bl_drew ?_ | refine bl_alloc ?_ _))) ?_
                        intro v15 w15 ho15 hg15 hat15
                        obtain ⟨g15, cap15, rfl, hc15, _⟩ := own_lit ho15 (1 + (acc.length - i)) (by simp; omega) (by omega)
                        have O15 := Lib.hid ho15
                        have N_ := Lib.hid (Below.grown (a := w14) (B := w14.heap.size) (by repeat (first | exact HR.out | refine bl_drewN ?_ _ | refine bl_drew ?_ | refine bl_alloc ?_ _)) hg15 (Below.size (w := w14) (by repeat (first | exact HR.out | refine bl_drewN ?_ _ | refine bl_drew ?_ | refine bl_alloc ?_ _))) (fun b hb => by cases hb; simp))
                        clear HR
                        have HR := N_
                        clear N_ ho15 hg15 hat15
                        have hs15 : w14.heap.size ≤ w15.heap.size := HR.out.size
                        refine hK.out _ _ ?_ (fun hHeld => ?_)
                        · exact ⟨(Below.cell (p := ⟨w5c.heap.size, 0, none⟩) (by repeat (first | exact HR.out | refine bl_drewN ?_ _ | refine bl_drew ?_ | refine bl_alloc ?_ _)) (World.block_lt_of_cell? w14 _ KZ0.out)).trans KZ0.out, (Below.cell (p := ⟨w5c.heap.size, 1, none⟩) (by repeat (first | exact HR.out | refine bl_drewN ?_ _ | refine bl_drew ?_ | refine bl_alloc ?_ _)) (World.block_lt_of_cell? w14 _ KZ1.out)).trans KZ1.out⟩
                        clear hK K
                        try simp only [Act.put, List.setIfInBounds_toArray, List.set_cons_zero, List.set_cons_succ]
                        refine wpAnyH_ready (rs := [13]) (by kernel_rfl) (by simp) ?_
                        refine AllReadyH.cons (o := { dst := some 125, op := Op.call { callee := Callee.builtin Builtin.append, args := #[Operand.tmp 115, Operand.tmp 124], argTypes := #[23, 23] }, type := 23, pos := "dvv.go:137", after := #[{ on := 3, ground := Ground.data }, { on := 12, ground := Ground.data }, { on := 12, ground := Ground.chain }], guard := none }) rfl (fun K hK => ?_) (AllReadyH.nil)
                        refine GR.step_grow (K := sibK) rfl (.tmp 115) (.tmp 124) _ rfl Try.underlying23 hj0 jz0 jz1 jz2 rfl ⟨g', 0, none⟩ i (acc.take i) rfl (by rw [List.length_take]; omega) (own_reads (O14.out.below HR.out) (by show acc.length * 40 ≤ _; omega) i) ⟨g15, 0, none⟩ (1 + (acc.length - i)) cap15 ([putX s ctx a v g] ++ acc.drop i) rfl (by simp; omega) (by omega) (GR.Own.rd O15.out (by show ([putX s ctx a v g] ++ acc.drop i).length * 40 ≤ _; simp only [List.length_append, List.length_drop, List.length_singleton]; omega)).2.2 (by show ((acc.take i).length + ([putX s ctx a v g] ++ acc.drop i).length) * 40 ≤ _; simp only [List.length_append, List.length_drop, List.length_singleton, List.length_take]; omega) ?_
                        intro v16 w16 ho16 hb16
                        obtain ⟨g16, cap16, rfl, hc16, _⟩ := own_lit ho16 (acc.length + 1) (by simp; omega) (by omega)
                        have O16 := Lib.hid (ho16.base hs15)
                        have N_ := Lib.hid (bl_then HR.out hb16)
                        clear HR
                        have HR := N_
                        clear N_ ho16 hb16
                        refine hK.out _ _ ?_ (fun hHeld => ?_)
                        · exact ⟨(Below.cell (p := ⟨w5c.heap.size, 0, none⟩) (by repeat (first | exact HR.out | refine bl_drewN ?_ _ | refine bl_drew ?_ | refine bl_alloc ?_ _)) (World.block_lt_of_cell? w14 _ KZ0.out)).trans KZ0.out, (Below.cell (p := ⟨w5c.heap.size, 1, none⟩) (by repeat (first | exact HR.out | refine bl_drewN ?_ _ | refine bl_drew ?_ | refine bl_alloc ?_ _)) (World.block_lt_of_cell? w14 _ KZ1.out)).trans KZ1.out⟩
                        clear hK K
                        try simp only [Act.put, List.setIfInBounds_toArray, List.set_cons_zero, List.set_cons_succ]
                        refine wpAnyH_take (i := 14) (oi := { dst := some 17, op := Op.assign (Operand.tmp 125), type := 23, pos := "dvv.go:137", after := #[{ on := 13, ground := Ground.data }, { on := 13, ground := Ground.chain }, { on := 0, ground := Ground.phase }, { on := 1, ground := Ground.phase }, { on := 2, ground := Ground.phase }, { on := 3, ground := Ground.phase }, { on := 4, ground := Ground.phase }, { on := 5, ground := Ground.phase }, { on := 6, ground := Ground.phase }, { on := 7, ground := Ground.phase }, { on := 8, ground := Ground.phase }, { on := 9, ground := Ground.phase }, { on := 10, ground := Ground.phase }, { on := 11, ground := Ground.phase }, { on := 12, ground := Ground.phase }, { on := 13, ground := Ground.phase }], guard := none }) (v := ?_) rfl (by kernel_rfl) (by kernel_rfl) (by kernel_rfl) (fun _ _ _ h => h) (Or.inl ⟨by rfl, ?_⟩) (by assumption) ?_
                        rotate_left
                        · intro w_ hSw
                          (try dsimp only at hSw)
                          go_simp
                          first | done | with_reducible rfl
                        try simp only [Act.put, List.setIfInBounds_toArray, List.set_cons_zero, List.set_cons_succ]
                        refine wpAnyH_done (by kernel_rfl) ?_ _
                        have F24 := Lib.hid (F23.out.below HR.out)
                        clear F23
                        replace BB := Lib.hid (bl_then BB.out HR.out)
                        have HLN : Hid ((insS (putX s ctx a v g) (keepS ctx l)).length = acc.length + 1) := Lib.hid (by rw [ins_len, HK.out])
                        by_cases h7 : 64 < acc.length + 1
                        · have g1 : decide ((64 : Int) < (acc.length : Int) + 1) = true := by simp; omega
                          have g3 : decide (64 < acc.length + 1) = true := by simp; omega
                          have H7 : Hid (64 < (insS (putX s ctx a v g) (keepS ctx l)).length) := Lib.hid (by rw [HLN.out]; exact h7)
                          clear h7
                          have ps_0 : w16.cell? ⟨w.heap.size, 0, none⟩ = some (.slice A s.length c1) := (F24.out.blk 9 rfl).cell 0
                          have ps_1 : w16.cell? ⟨w.heap.size, 1, none⟩ = some (.slice B l.length c2) := (F24.out.blk 9 rfl).cell 1
                          have pz_0 : w16.cell? ⟨w5c.heap.size, 0, none⟩ = some (.int .u32 a) := (F24.out.blk 3 rfl).cell 0
                          have pz_1 : w16.cell? ⟨w5c.heap.size, 1, none⟩ = some (.int .u64 (putN s ctx a + 1)) := (F24.out.blk 3 rfl).cell 1
                          have HV := Lib.hid (put_big3 H1.out H2.out H3.out (Int.not_le.2 H4.out) H5.out H6.out H7.out)
                          have pr_0 : w16.cell? ⟨w.heap.size + 1, 0, none⟩ = some (.slice none 0 0) := (F24.out.blk 8 rfl).cell 0
                          have pr_1 : w16.cell? ⟨w.heap.size + 1, 1, none⟩ = some (.slice none 0 0) := (F24.out.blk 8 rfl).cell 1
                          have pd_0 : w16.cell? ⟨w.heap.size + 1 + 1, 0, none⟩ = some (.int .u32 0) := (F24.out.blk 7 rfl).cell 0
                          have pd_1 : w16.cell? ⟨w.heap.size + 1 + 1, 1, none⟩ = some (.int .u64 0) := (F24.out.blk 7 rfl).cell 1
                          have pr_f0 := (F24.out.blk 8 rfl).frozen 0
                          have pr_f1 := (F24.out.blk 8 rfl).frozen 1
                          have pd_f0 := (F24.out.blk 7 rfl).frozen 0
                          have pd_f1 := (F24.out.blk 7 rfl).frozen 1
                          go_wp2
                          try rw [Exit.noGoto_ret]
                          exact bodyPost_ret (v := .tuple #[.agg #[.slice none 0 0, .slice none 0 0], .agg #[.int .u32 0, .int .u64 0], .int .i64 82]) (by simp [results, Try.results37, go_sem, pr_0, pr_1, pd_0, pd_1, pr_f0, pr_f1, pd_f0, pd_f1]) rfl ⟨_, _, put_ret0 HV.out, put_own0 HV.out _ _, (by repeat (first | exact bl_then LW.out BB.out | refine bl_drewN ?_ _ | refine bl_drew ?_ | refine bl_alloc ?_ _ | refine Below.setCell ?_ (by simp <;> omega) _))⟩
                        · skip
                          have g1 : decide ((64 : Int) < (acc.length : Int) + 1) = false := by simp; omega
                          have g3 : decide (64 < acc.length + 1) = false := by simp; omega
                          have H7 : Hid (¬ 64 < (insS (putX s ctx a v g) (keepS ctx l)).length) := Lib.hid (by rw [HLN.out]; exact h7)
                          clear h7
                          have HV := Lib.hid (put_ok H1.out H2.out H3.out (Int.not_le.2 H4.out) H5.out H6.out H7.out)
                          have pr_0 : w16.cell? ⟨w.heap.size + 1, 0, none⟩ = some (.slice none 0 0) := (F24.out.blk 8 rfl).cell 0
                          have pr_1 : w16.cell? ⟨w.heap.size + 1, 1, none⟩ = some (.slice none 0 0) := (F24.out.blk 8 rfl).cell 1
                          have pd_0 : w16.cell? ⟨w.heap.size + 1 + 1, 0, none⟩ = some (.int .u32 0) := (F24.out.blk 7 rfl).cell 0
                          have pd_1 : w16.cell? ⟨w.heap.size + 1 + 1, 1, none⟩ = some (.int .u64 0) := (F24.out.blk 7 rfl).cell 1
                          have pr_f0 := (F24.out.blk 8 rfl).frozen 0
                          have pr_f1 := (F24.out.blk 8 rfl).frozen 1
                          have pd_f0 := (F24.out.blk 7 rfl).frozen 0
                          have pd_f1 := (F24.out.blk 7 rfl).frozen 1
                          have pz_lt : w5c.heap.size < w16.heap.size := (F24.out.blk 3 rfl).lt
                          have hz1 : w5c.heap.size ≠ w.heap.size + 1 := by have := HWC.out; omega
                          have hz2 : w5c.heap.size ≠ w.heap.size + 1 + 1 := by have := HWC.out; omega
                          have hz3 : w.heap.size + 1 ≠ w5c.heap.size := Ne.symm hz1
                          have hz4 : w.heap.size + 1 + 1 ≠ w5c.heap.size := Ne.symm hz2
                          have J0 : Hid (w16.cell? ⟨w5c.heap.size, 0, none⟩ = some (.int .u32 a)) := Lib.hid ((F24.out.blk 3 rfl).cell 0)
                          have J1 : Hid (w16.cell? ⟨w5c.heap.size, 1, none⟩ = some (.int .u64 (putN s ctx a + 1))) := Lib.hid ((F24.out.blk 3 rfl).cell 1)
                          go_wp2
                          refine wp_region_held_drew (S := fun w' => w'.cell? ⟨w5c.heap.size, 0, none⟩ = some (.int .u32 a) ∧ w'.cell? ⟨w5c.heap.size, 1, none⟩ = some (.int .u64 (putN s ctx a + 1))) (by kernel_rfl) ?_ (fun hHeld => ?_)
                          · exact ⟨J0.out, J1.out⟩
                          refine wpAnyH_take (i := 0) (oi := { dst := some 131, op := Op.move (Operand.tmp 15), type := 22, pos := "dvv.go:141", after := #[], guard := none }) (v := ?_) rfl (by kernel_rfl) (by kernel_rfl) (by kernel_rfl) (fun _ _ _ h => h) (Or.inl ⟨by rfl, ?_⟩) (by assumption) ?_
                          rotate_left
                          · intro w_ hSw
                            (try dsimp only at hSw)
                            go_simp
                            first | done | with_reducible rfl
                          try simp only [Act.put, List.setIfInBounds_toArray, List.set_cons_zero, List.set_cons_succ]
                          refine wpAnyH_take (i := 1) (oi := { dst := some 132, op := Op.move (Operand.tmp 17), type := 23, pos := "dvv.go:141", after := #[], guard := none }) (v := ?_) rfl (by kernel_rfl) (by kernel_rfl) (by kernel_rfl) (fun _ _ _ h => h) (Or.inl ⟨by rfl, ?_⟩) (by assumption) ?_
                          rotate_left
                          · intro w_ hSw
                            (try dsimp only at hSw)
                            go_simp
                            first | done | with_reducible rfl
                          try simp only [Act.put, List.setIfInBounds_toArray, List.set_cons_zero, List.set_cons_succ]
                          refine wpAnyH_take (i := 2) (oi := { dst := some 133, op := Op.build 25 #[(0, Operand.tmp 131), (1, Operand.tmp 132)], type := 25, pos := "dvv.go:141", after := #[{ on := 0, ground := Ground.data }, { on := 1, ground := Ground.data }], guard := none }) (v := ?_) rfl (by kernel_rfl) (by kernel_rfl) (by kernel_rfl) (fun _ _ _ h => h) (Or.inl ⟨by rfl, ?_⟩) (by assumption) ?_
                          rotate_left
                          · intro w_ hSw
                            (try dsimp only at hSw)
                            go_simp
                            first | done | with_reducible rfl
                          try simp only [Act.put, List.setIfInBounds_toArray, List.set_cons_zero, List.set_cons_succ]
                          refine wpAnyH_take (i := 3) (oi := { dst := some 134, op := Op.load 41 (Operand.tmp 14), type := 41, pos := "dvv.go:141", after := #[{ on := 4, ground := Ground.gcOnly Departure.lateStores }], guard := none }) (v := ?_) rfl (by kernel_rfl) (by kernel_rfl) (by kernel_rfl) (fun _ _ _ h => h) (Or.inl ⟨by rfl, ?_⟩) (by assumption) ?_
                          rotate_left
                          · intro w_ hSw
                            (try dsimp only at hSw)
                            go_simp
                            first | done | with_reducible rfl
                          try simp only [Act.put, List.setIfInBounds_toArray, List.set_cons_zero, List.set_cons_succ]
                          refine wpAnyH_ready (rs := [4]) (by kernel_rfl) (by simp) ?_
                          refine AllReadyH.cons (o := { dst := none, op := Op.store 25 (Operand.tmp 10) (Operand.tmp 133), type := 0, pos := "dvv.go:141", after := #[{ on := 2, ground := Ground.data }, { on := 0, ground := Ground.phase }, { on := 1, ground := Ground.phase }, { on := 2, ground := Ground.phase }, { on := 3, ground := Ground.textOnly Departure.lateStores }], guard := none }) rfl (fun K hK => ?_) (AllReadyH.nil)
                          go_simp
                          skip
                          refine hK.out _ _ ?_ (fun hHeld => ?_)
                          · go_keep
                          clear hK K
                          try simp only [Act.put, List.setIfInBounds_toArray, List.set_cons_zero, List.set_cons_succ]
                          refine wpAnyH_ready (rs := [5]) (by kernel_rfl) (by simp) ?_
                          refine AllReadyH.cons (o := { dst := none, op := Op.store 41 (Operand.tmp 11) (Operand.tmp 134), type := 0, pos := "dvv.go:141", after := #[{ on := 3, ground := Ground.data }, { on := 4, ground := Ground.chain }, { on := 0, ground := Ground.phase }, { on := 1, ground := Ground.phase }, { on := 2, ground := Ground.phase }, { on := 3, ground := Ground.phase }, { on := 4, ground := Ground.phase }], guard := none }) rfl (fun K hK => ?_) (AllReadyH.nil)
                          go_simp
                          skip
                          refine hK.out _ _ ?_ (fun hHeld => ?_)
                          · go_keep
                          clear hK K
                          try simp only [Act.put, List.setIfInBounds_toArray, List.set_cons_zero, List.set_cons_succ]
                          refine wpAnyH_take (i := 6) (oi := { dst := some 12, op := Op.assign (Operand.const (Value.int IntKind.i64 0)), type := 33, pos := "dvv.go:141", after := #[{ on := 5, ground := Ground.chain }, { on := 0, ground := Ground.phase }, { on := 1, ground := Ground.phase }, { on := 2, ground := Ground.phase }, { on := 3, ground := Ground.phase }, { on := 4, ground := Ground.phase }, { on := 5, ground := Ground.phase }], guard := none }) (v := ?_) rfl (by kernel_rfl) (by kernel_rfl) (by kernel_rfl) (fun _ _ _ h => h) (Or.inl ⟨by rfl, ?_⟩) (by assumption) ?_
                          rotate_left
                          · intro w_ hSw
                            (try dsimp only at hSw)
                            go_simp
                            first | done | with_reducible rfl
                          try simp only [Act.put, List.setIfInBounds_toArray, List.set_cons_zero, List.set_cons_succ]
                          refine wpAnyH_done (by kernel_rfl) ?_ _
                          go_wp2
                          have CF : ∀ x : World, Chg (fun k => k = w.heap.size + 1 ∨ k = w.heap.size + 1 + 1) w16 x → OwnS x w.heap.size (.slice Am (vmax (vmax s ctx) [putDot s ctx a]).length cm) (.slice (some ⟨g16, 0, none⟩) (acc.length + 1) cap16) (putA s l ctx a v g) (putL s l ctx a v g) := fun x hx => by
                            rw [HV.out.2.1, HV.out.2.2.1]
                            refine ⟨GR.Own.base (own_chg (F24.out.ow 0 rfl) hx fun k hk hs => ?_) LW.out.size, GR.Own.base (B := W1.heap.size) (own_chg (by rw [← HK.out, ← HI.out]; exact O16.out.base HW14.out) hx fun k hk hs => ?_) LW.out.size⟩
                            · have h1 := ((F24.out.ow 0 rfl).lt k hk).1; have h2 := LW1.out; omega
                            · have h1 := (O16.out.lt k hk).1; have h2 := LW1.out; have h3 := HW14.out; omega
                          exact bodyPost_ret (v := .tuple #[.agg #[.slice Am (vmax (vmax s ctx) [putDot s ctx a]).length cm, .slice (some ⟨g16, 0, none⟩) (acc.length + 1) cap16], .agg #[.int .u32 a, .int .u64 (putN s ctx a + 1)], .int .i64 0]) (by simp [results, Try.results37, go_sem, pr_0, pr_1, pd_0, pd_1, pr_f0, pr_f1, pd_f0, pd_f1]) rfl ⟨_, _, put_ret1 HV.out.1 HV.out.2.2.2, CF _ (by repeat (first | exact Chg.refl _ _ | refine chg_drewN ?_ _ | refine chg_drew ?_ | refine chg_put ?_ (by first | exact .inl rfl | exact .inr rfl))), (by repeat (first | exact bl_then LW.out BB.out | refine bl_drewN ?_ _ | refine bl_drew ?_ | refine bl_alloc ?_ _ | refine Below.setCell ?_ (by simp <;> omega) _))⟩
                  · rw [hxe]
                    have H6 := Lib.hid hx
                    clear ho hx hxe
                    have ps_0 : w9.cell? ⟨w.heap.size, 0, none⟩ = some (.slice A s.length c1) := (F20.out.blk 8 rfl).cell 0
                    have ps_1 : w9.cell? ⟨w.heap.size, 1, none⟩ = some (.slice B l.length c2) := (F20.out.blk 8 rfl).cell 1
                    have pz_0 : w9.cell? ⟨w5c.heap.size, 0, none⟩ = some (.int .u32 a) := (F20.out.blk 2 rfl).cell 0
                    have pz_1 : w9.cell? ⟨w5c.heap.size, 1, none⟩ = some (.int .u64 (putN s ctx a + 1)) := (F20.out.blk 2 rfl).cell 1
                    have HV := Lib.hid (put_big2 H1.out H2.out H3.out (Int.not_le.2 H4.out) H5.out H6.out)
                    have pr_0 : w9.cell? ⟨w.heap.size + 1, 0, none⟩ = some (.slice none 0 0) := (F20.out.blk 7 rfl).cell 0
                    have pr_1 : w9.cell? ⟨w.heap.size + 1, 1, none⟩ = some (.slice none 0 0) := (F20.out.blk 7 rfl).cell 1
                    have pd_0 : w9.cell? ⟨w.heap.size + 1 + 1, 0, none⟩ = some (.int .u32 0) := (F20.out.blk 6 rfl).cell 0
                    have pd_1 : w9.cell? ⟨w.heap.size + 1 + 1, 1, none⟩ = some (.int .u64 0) := (F20.out.blk 6 rfl).cell 1
                    have pr_f0 := (F20.out.blk 7 rfl).frozen 0
                    have pr_f1 := (F20.out.blk 7 rfl).frozen 1
                    have pd_f0 := (F20.out.blk 6 rfl).frozen 0
                    have pd_f1 := (F20.out.blk 6 rfl).frozen 1
                    go_wp2
                    try rw [Exit.noGoto_ret]
                    exact bodyPost_ret (v := .tuple #[.agg #[.slice none 0 0, .slice none 0 0], .agg #[.int .u32 0, .int .u64 0], .int .i64 82]) (by simp [results, Try.results37, go_sem, pr_0, pr_1, pd_0, pd_1, pr_f0, pr_f1, pd_f0, pd_f1]) rfl ⟨_, _, put_ret0 HV.out, put_own0 HV.out _ _, (by repeat (first | exact bl_then LW.out BB.out | refine bl_drewN ?_ _ | refine bl_drew ?_ | refine bl_alloc ?_ _ | refine Below.setCell ?_ (by simp <;> omega) _))⟩
                · rw [hxe]
                  have H5 := Lib.hid hx
                  clear ho hx hxe
                  have ps_0 : w7.cell? ⟨w.heap.size, 0, none⟩ = some (.slice A s.length c1) := (F16.out.blk 6 rfl).cell 0
                  have ps_1 : w7.cell? ⟨w.heap.size, 1, none⟩ = some (.slice B l.length c2) := (F16.out.blk 6 rfl).cell 1
                  have pz_0 : w7.cell? ⟨w5c.heap.size, 0, none⟩ = some (.int .u32 a) := (F16.out.blk 0 rfl).cell 0
                  have pz_1 : w7.cell? ⟨w5c.heap.size, 1, none⟩ = some (.int .u64 (putN s ctx a + 1)) := (F16.out.blk 0 rfl).cell 1
                  have HV := Lib.hid (put_big1 H1.out H2.out H3.out (Int.not_le.2 H4.out) H5.out)
                  have pr_0 : w7.cell? ⟨w.heap.size + 1, 0, none⟩ = some (.slice none 0 0) := (F16.out.blk 5 rfl).cell 0
                  have pr_1 : w7.cell? ⟨w.heap.size + 1, 1, none⟩ = some (.slice none 0 0) := (F16.out.blk 5 rfl).cell 1
                  have pd_0 : w7.cell? ⟨w.heap.size + 1 + 1, 0, none⟩ = some (.int .u32 0) := (F16.out.blk 4 rfl).cell 0
                  have pd_1 : w7.cell? ⟨w.heap.size + 1 + 1, 1, none⟩ = some (.int .u64 0) := (F16.out.blk 4 rfl).cell 1
                  have pr_f0 := (F16.out.blk 5 rfl).frozen 0
                  have pr_f1 := (F16.out.blk 5 rfl).frozen 1
                  have pd_f0 := (F16.out.blk 4 rfl).frozen 0
                  have pd_f1 := (F16.out.blk 4 rfl).frozen 1
                  go_wp2
                  try rw [Exit.noGoto_ret]
                  exact bodyPost_ret (v := .tuple #[.agg #[.slice none 0 0, .slice none 0 0], .agg #[.int .u32 0, .int .u64 0], .int .i64 82]) (by simp [results, Try.results37, go_sem, pr_0, pr_1, pd_0, pd_1, pr_f0, pr_f1, pd_f0, pd_f1]) rfl ⟨_, _, put_ret0 HV.out, put_own0 HV.out _ _, (by repeat (first | exact bl_then LW.out BB.out | refine bl_drewN ?_ _ | refine bl_drew ?_ | refine bl_alloc ?_ _ | refine Below.setCell ?_ (by simp <;> omega) _))⟩
end Go.Proofs.Ytljfigikkajlnaa
