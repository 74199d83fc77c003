/- DERIVED. What a block makes of a state: the document's text. A number in a fixed count of bytes: the document's Fixed; both texts' Prefix. The digest of a text: the document's Of.  Same of dots, of siblings: both texts. Rows of the call's own: apart from one another, left as they were by stores elsewhere. A state's twin. Chapter 13's own sameDots and same. -/
import Derived.Test.YtljfigikkajlnaaVm1
import Derived.Test.YtljfigikkajlnaaVm3
import Derived.Test.YtljfigikkajlnaaVm2
import Derived.Test.YtljfigikkajlnaaVm5
import Derived.Test.YtljfigikkajlnaaVGRow
import Derived.Test.YtljfigikkajlnaaVWWords
import Derived.BigRegion
import Derived.Laws.Cover3
import Derived.Laws.StructEq
import Derived.Laws.Runes
import Derived.Deep.QuietTactic
import Derived.BigQuiet
import Derived.Deep.RegionHeld3
import Derived.WalkLawsBesides
import Derived.WalkSpells
import Derived.Lib.Hide
import Derived.Outline
import Derived.RegionCalls
import Derived.Lib.Bytealg
import Derived.WalkMore
import Derived.Lib.Strings
namespace Go.Proofs.Ytljfigikkajlnaa
open Go.RowKit
set_option linter.unusedVariables false
set_option linter.unusedSimpArgs false
attribute [local go_sem high] w_add w_xor w_and w_or w_andNot w_not w_shl w_shr u32_byte u8_word
attribute [local irreducible] arrW arrB kc wpList Code.wp
theorem zero_lt_of {b : Option Nat} {g lo : Nat} (h : lo ≤ g) (hb : b = some g) : ∀ x, b = some x → lo ≤ x := fun x hx => by rw [hb] at hx; injection hx with hx; omega
end Go.Proofs.Ytljfigikkajlnaa
namespace Go.Proofs.Ytljfigikkajlnaa
open Go.RowKit
set_option linter.unusedVariables false
set_option linter.unusedSimpArgs false
attribute [local irreducible] arrW arrB wpList Code.wp
def prefS (n : Nat) : ByteArray := strOfNums [(n : Int) / 256, (n : Int) % 256]
end Go.Proofs.Ytljfigikkajlnaa
namespace Go.Proofs.Ytljfigikkajlnaa
open Go.RowKit
set_option linter.unusedVariables false
set_option linter.unusedSimpArgs false
attribute [local go_sem high] w_add w_xor w_and w_or w_andNot w_not w_shl w_shr u32_byte u8_word
attribute [local irreducible] arrW arrB kc wpList Code.wp
theorem z32 : (Try.prog.info? 91).map (fun i => (i.zero, i.size)) = some (some (.agg (arrB 32 fun _ => 0)), 32) := by
 unfold arrB
 kernel_rfl
theorem s32 : (Try.prog.info? 91).map (·.size) = some 32 := by kernel_rfl
section
variable {P : Program} {ops : Array Oper} {o : Oper} {a : Act} {w : World} {K : Act → World → Prop} {Q : Exit → Act → World → Prop} {E : Prop}
end
end Go.Proofs.Ytljfigikkajlnaa
namespace Go.Proofs.YtljfigikkajlnaaW.PrintWords
set_option linter.unusedVariables false
set_option linter.unusedSimpArgs false
open Go.RowKit
section
variable {P : Program} {d : Nat} {xs ys : Array Value} {f : Field} {fs : List Field} {a b : Value} {r s : Bool} {w : World}
/-- The last field that counts. -/
theorem eqf_last (hn : (f.name == "_") = false) (ha : (part f.type xs f.offset).run P w = .ok a w) (hb : (part f.type ys f.offset).run P w = .ok b w) (he : (Op.equalIn d f.type a b).run P w = .ok r w) : (Op.eqFields d xs ys [f]).run P w = .ok r w := by
 have hn' : f.name ≠ "_" := by simpa using hn
 simp only [Op.eqFields, if_pos hn', Sem.run_bind, ha, hb, he, Result.andThen_ok]
 cases r <;> simp
theorem eqf_cons (hn : (f.name == "_") = false) (ha : (part f.type xs f.offset).run P w = .ok a w) (hb : (part f.type ys f.offset).run P w = .ok b w) (he : (Op.equalIn d f.type a b).run P w = .ok r w) (hr : (Op.eqFields d xs ys fs).run P w = .ok s w) : (Op.eqFields d xs ys (f :: fs)).run P w = .ok (r && s) w := by
 have hn' : f.name ≠ "_" := by simpa using hn
 rw [Op.eqFields]
 simp only [if_pos hn', Sem.run_bind, ha, hb, he, Result.andThen_ok]
 cases r
 · simp
 · simpa using hr
theorem eqA_of {t : TypeId} {fs : Array Field} (hu : P.underlying t = some (.struct fs)) (hp : P.stoodInHeld t = false) (h : (Op.eqFields d xs ys fs.toList).run P w = .ok r w) : (Op.equalIn (d + 1) t (.agg xs) (.agg ys)).run P w = .ok r w := by
 have hf : P.fieldsOf t = fs := by simp [Program.fieldsOf, hu]
 rw [run_equalIn_struct (P := P) w d t xs ys (by rw [hf]; exact hu) hp, hf]
 exact h
end
end Go.Proofs.YtljfigikkajlnaaW.PrintWords
namespace Go.Proofs.Ytljfigikkajlnaa
open Go.RowKit Go.Proofs.YtljfigikkajlnaaW.PrintWords
set_option linter.unusedVariables false
set_option linter.unusedSimpArgs false
theorem str_eq {a b : ByteArray} : (a.toList == b.toList) = decide (a = b) := by
 rw [Bool.eq_iff_iff]
 simp only [beq_iff_eq, decide_eq_true_eq, ByteArray.toList_eq]
 exact ⟨fun h => by obtain ⟨⟨a⟩⟩ := a; obtain ⟨⟨b⟩⟩ := b; simp only at h; rw [h], fun h => by rw [h]⟩
/-- Are two dots the same, two siblings? -/
def dEq (a n b m : Int) : Bool := decide (a = b) && decide (n = m)
def sEq (a n : Int) (g : Bool) (v : ByteArray) (b m : Int) (h : Bool) (u : ByteArray) : Bool := dEq a n b m && (decide (g = h) && decide (v = u))
theorem dEq_iff {x y : Dot} : dEq x.a x.n y.a y.n = true ↔ x = y := by
 simp only [dEq, Bool.and_eq_true, decide_eq_true_eq]
 exact ⟨fun h => by cases x; cases y; simp only at h; rw [h.1, h.2], fun h => by rw [h]; exact ⟨rfl, rfl⟩⟩
theorem sEq_iff {x y : Sib} : sEq x.d.a x.d.n x.gone x.v y.d.a y.d.n y.gone y.v = true ↔ x = y := by
 simp only [sEq, Bool.and_eq_true, decide_eq_true_eq, dEq_iff]
 exact ⟨fun h => by cases x; cases y; simp only at h; obtain ⟨h1, h2, h3⟩ := h; rw [h1, h2, h3], fun h => by rw [h]; exact ⟨rfl, rfl, rfl⟩⟩
theorem eqD (d : Nat) (w : World) (a n b m : Int) :
 (Op.equalIn (d + 2) 41 (.agg #[.int .u32 a, .int .u64 n]) (.agg #[.int .u32 b, .int .u64 m])).run Try.prog w = .ok (dEq a n b m) w := by
 have : dEq a n b m = ((a == b) && (n == m)) := by unfold dEq; rfl
 rw [this]
 refine eqA_of Try.underlying41 (by kernel_rfl) ?_
 refine eqf_cons (by rfl) (by go_simp; rfl) (by go_simp; rfl) (by go_simp) ?_
 exact eqf_last (by rfl) (by go_simp; rfl) (by go_simp; rfl) (by go_simp)
attribute [local go_sem high] eqD
theorem eqS (d : Nat) (w : World) (a n : Int) (g : Bool) (v : ByteArray) (b m : Int) (h : Bool) (u : ByteArray) :
 (Op.equalIn (d + 3) 67 (.agg #[.int .u32 a, .int .u64 n, .bool g, .string v]) (.agg #[.int .u32 b, .int .u64 m, .bool h, .string u])).run Try.prog w = .ok (sEq a n g v b m h u) w := by
 have : sEq a n g v b m h u = (dEq a n b m && ((g == h) && (v.toList == u.toList))) := by unfold sEq; rw [str_eq]; rfl
 rw [this]
 refine eqA_of Try.underlying67 (by kernel_rfl) ?_
 refine eqf_cons (by rfl) (by go_simp) (by go_simp) (eqD _ _ _ _ _ _) ?_
 refine eqf_cons (by rfl) (by go_simp; rfl) (by go_simp; rfl) (by go_simp) ?_
 exact eqf_last (by rfl) (by go_simp; rfl) (by go_simp; rfl) (by go_simp)
attribute [local go_sem high] eqS
/-- Are two states the same? -/
def stEq (a : List Dot) (l : List Sib) (b : List Dot) (m : List Sib) : Bool := decide (a = b) && decide (l = m)
end Go.Proofs.Ytljfigikkajlnaa
namespace Go.Proofs.Ytljfigikkajlnaa
open Go.RowKit
set_option linter.unusedVariables false
set_option linter.unusedSimpArgs false
theorem own_slice {α : Type} {K : GR.Kind α} {w : World} {B : Nat} {v : Value} {l : List α} (h : GR.Own K w B v l) (hb : l.length * K.b ≤ 140737488355328) : ∃ A n c, v = .slice A n c := by
 obtain ⟨A, c, e, _⟩ := h.rd' hb
 exact ⟨A, _, c, e⟩
/-- A store into another block leaves an own row as it was. -/
theorem own_far {α : Type} {K : GR.Kind α} {w : World} {g B : Nat} {t : TypeId} {cs : Array Value} {v : Value} {l : List α} (h : GR.Own K w B v l) (bg : GR.Blk w g t cs) (u : Value) (hne : K.e ≠ t) : GR.Own K (w.setCell ⟨g, 0, none⟩ u) B v l :=
 h.grown (row := some g) ⟨rfl, rfl, rfl, by simp [World.setCell], fun k _ hk => Below.heap_setCell _ _ _ _ (by intro e; subst e; exact hk rfl)⟩ (.inr (GR.own_blk_ne h bg hne))
theorem own_apart {α β : Type} {K : GR.Kind α} {J : GR.Kind β} {w : World} {B B' : Nat} {u v : Value} {l : List α} {m : List β} (h : GR.Own K w B u l) (k : GR.Own J w B' v m) (hne : K.e ≠ J.e) : u.ownBlock = none ∨ u.ownBlock ≠ v.ownBlock := by
 rcases h.2 with ⟨rfl, _⟩ | ⟨g, cap, cur, rfl, _, hh, _⟩
 · exact .inl rfl
 · refine .inr fun e => ?_
   rcases k.2 with ⟨rfl, _⟩ | ⟨g', cap', cur', rfl, _, hh', _⟩
   · simp [Value.ownBlock] at e
   · have : g = g' := by simpa [Value.ownBlock] using e
     subst this
     exact GR.Blk.ne_ (t := K.e) (t' := J.e) hh hh' hne rfl
/-- What is older than a row grown is as it was (the row apart). -/
theorem own_set2 {α : Type} {K : GR.Kind α} {w : World} {B g : Nat} {u v x : Value} {l : List α} {W : World} {cs : Array Value} (h : GR.Own K w B x l) (bg : GR.Blk W g 25 cs) (hb : Below W.heap.size W w) (hne : K.e ≠ 25 := by decide) :
 GR.Own K ((w.setCell ⟨g, 0, none⟩ u).setCell ⟨g, 1, none⟩ v) B x l := by
 have b1 := bg.below hb bg.lt
 have hs : ∀ (w : World) (i : Nat) (cs : Array Value) (u : Value), GR.Own K w B x l → GR.Blk w g 25 cs → GR.Own K (w.setCell ⟨g, i, none⟩ u) B x l := fun w i cs u h b =>
  h.grown (row := some g) ⟨rfl, rfl, rfl, by simp [World.setCell], fun k _ hk => Below.heap_setCell _ _ _ _ (by intro e; subst e; exact hk rfl)⟩ (.inr (GR.own_blk_ne h b hne))
 exact hs _ 1 _ v (hs _ 0 _ u h b1) (b1.set_ 0 u)
end Go.Proofs.Ytljfigikkajlnaa
namespace Go.Proofs.Ytljfigikkajlnaa
open Go.RowKit
set_option linter.unusedVariables false
set_option linter.unusedSimpArgs false
namespace GR
variable {α : Type} {K : Kind α}
variable {P : Program} {ops : Array Oper} {o : Oper} {a : Act} {Q : Exit → Act → World → Prop}
/-- append(v, x...) at a step of a region that draws its order. -/
theorem step_all {w : World} {E : Prop} {K' : Act → World → Prop} {i : TypeInfo} {z : Value} (hgd : o.guard = none) (s x : Operand) (t : TypeId)
 (ho : o.op = .call { callee := .builtin .append, args := #[s, x], argTypes := #[t, t] })
 (ht : P.underlying t = some (.slice K.e)) (hi : P.info? K.e = some i) (hz : i.zero = some z) (hsize : i.size = K.s) (hby : i.bytes = K.b) (hzs : z.cells.size = K.s)
 (B : Nat) (v : Value) (xs : List α) (hs : a.eval s = v) (hown : Own K w B v xs) (A : Option Addr) (n c : Nat) (ys : List α) (hx : a.eval x = .slice A n c) (hn : n = ys.length) (hr : Rd K w A ys)
 (hb : (xs.length + ys.length) * K.b ≤ 140737488355328) (hbase : B ≤ w.heap.size)
 (h : ∀ v' w', Own K w' B v' (xs ++ ys) → w.grownBy w' v.ownBlock → (v'.ownBlock = v.ownBlock ∨ v'.ownBlock = some w.heap.size) → K' (a.put o.dst v') w') :
 if Region.wanted o (yielded ops a.tmps) = true then Oper.wp P o a w K' Q else E := by
 subst hn
 have hlen : xs.length + ys.length ≤ 140737488355328 := Nat.le_trans (Nat.le_mul_of_pos_right _ K.hb) hb
 refine step_append_any w hgd s x t ho B K.e i z K.s K.b ht hi hz hsize hby hzs K.hs v xs.length (cs K xs) hs hown w.heap.size A ys.length c (cs K ys) hx hr.2 (cs_one ys) (by simp only [maxLen]; omega) hb hbase fun v' w' h1 h2 h3 => h v' w' ?_ h2 h3
 show w'.ownsRow B K.e K.s v' (xs ++ ys).length (cs K (xs ++ ys))
 rw [List.length_append, cs_append]; exact h1
end GR
end Go.Proofs.Ytljfigikkajlnaa
namespace Go.Proofs.Ytljfigikkajlnaa
open Go.RowKit Go.Proofs.YtljfigikkajlnaaW.PrintWords
set_option linter.unusedVariables false
set_option linter.unusedSimpArgs false
attribute [local go_sem high] eqD eqS
set_option maxRecDepth 100000 in
set_option maxHeartbeats 1600000 in
theorem lsameDots_any (A B : Option Addr) (c d : Nat) (l m : List Dot) (w : World) (hl : GR.Rd dotK w A l) (hm : GR.Rd dotK w B m) :
 Calls Try.prog 18 #[.slice A l.length c, .slice B m.length d] w fun e w' => e = .returned (.bool (decide (l = m))) ∧ Drawn w w' := by
 have h1 : l.length * 16 ≤ 140737488355328 := hl.max
 have h2 : m.length * 16 ≤ 140737488355328 := hm.max
 have HL := Lib.hid hl
 have HM := Lib.hid hm
 clear hl hm
 by_cases hn : l.length = m.length
 · have b0 : (l.length != m.length) = false := by simp [hn]
   have b1 : ((l.length : Int) != (m.length : Int)) = false := by simp [hn]
   have HN := Lib.hid hn
   clear hn
   go_enter Try.func18, Try.ntmps18
   go_wp2
   go_loopw [5] (fun i w' => ∃ k : Nat, k ≤ l.length ∧ i = .int .i64 k ∧ Hid (l.take k = m.take k) ∧ Hid (Drawn w w')) (fun i _ => l.length - (intOf i).toNat)
   case atStart => exact ⟨0, Nat.zero_le _, rfl, Lib.hid (by simp), Lib.hid (Drawn.refl w)⟩
   case round =>
    obtain ⟨k, hk, rfl, hsame, hw⟩ := hrel
    have hL1 := HL.out.below (hw.out.below w.heap.size)
    have hM1 := HM.out.below (hw.out.below w.heap.size)
    by_cases hlt : k < l.length
    · have hlt2 : k < m.length := by have := HN.out; omega
      have i0 : (0 : Int) ≤ (k : Int) := by omega
      have i1 : (k : Int) < (l.length : Int) := by omega
      have i2 : (k : Int) < (m.length : Int) := by omega
      obtain ⟨ad, rfl, hb1, c0, c1⟩ := dot_at hL1 k hlt
      obtain ⟨bd, rfl, hb2, d0, d1⟩ := dot_at hM1 k hlt2
      clear hL1 hM1 hb1 hb2
      by_cases hq : l[k] = m[k]
      · have q0 : dEq l[k].a l[k].n m[k].a m[k].n = true := by rw [hq]; simp [dEq, sEq]
        have HQ := Lib.hid hq
        clear hq
        go_wp2
        go_quiet (fail)
        go_wp2
        go_roundw
        case rel => exact ⟨k + 1, by omega, by go_num, Lib.hid (by rw [List.take_succ_eq_append_getElem hlt, List.take_succ_eq_append_getElem hlt2, hsame.out, HQ.out]), Lib.hid (hw.out.drewN _)⟩
        case measure => simp [intOf]; omega
      · have HV := Lib.hid (show decide (l = m) = false by simp; intro e; subst e; exact hq rfl)
        have q0 : dEq l[k].a l[k].n m[k].a m[k].n = false := by
         rw [Bool.eq_false_iff]
         intro h
         exact hq (dEq_iff.1 h)
        clear hq
        go_wp2
        go_quiet (fail)
        go_wp2
        go_ret
        exact ⟨ret_bool HV.out.symm, hw.out.drewN _⟩
    · obtain rfl : k = l.length := by omega
      have HV := Lib.hid (show decide (l = m) = true by
       have := hsame.out
       rw [List.take_length, HN.out, List.take_length] at this
       simpa using this)
      go_wp2
      go_ret
      exact ⟨ret_bool HV.out.symm, hw.out⟩
 · have HV := Lib.hid (show decide (l = m) = false by simp; intro e; exact hn (by rw [e]))
   have b0 : (l.length != m.length) = true := by simpa using hn
   have b1 : ((l.length : Int) != (m.length : Int)) = true := by simp; omega
   clear hn
   go_enter Try.func18, Try.ntmps18
   go_wp2
   go_ret
   exact ⟨ret_bool HV.out.symm, Drawn.refl _⟩
set_option maxRecDepth 100000 in
set_option maxHeartbeats 3200000 in
theorem lsame_key (key : ByteArray) (A B C D : Option Addr) (c1 c2 c3 c4 : Nat) (a b : List Dot) (l m : List Sib) (w : World) (ha : GR.Rd dotK w A a) (hl : GR.Rd sibK w B l) (hb : GR.Rd dotK w C b) (hm : GR.Rd sibK w D m) :
 Calls Try.prog 19 #[.agg #[.string key, .slice A a.length c1, .slice B l.length c2], .agg #[.string key, .slice C b.length c3, .slice D m.length c4]] w fun e w' => e = .returned (.bool (stEq a l b m)) ∧ Below w.heap.size w w' := by
 have h1 : l.length * 40 ≤ 140737488355328 := hl.max
 have h2 : m.length * 40 ≤ 140737488355328 := hm.max
 have HA := Lib.hid ha
 have HL := Lib.hid hl
 have HB := Lib.hid hb
 have HM := Lib.hid hm
 clear ha hl hb hm
 have kk : (key.toList == key.toList) = true := by simp
 have L0 := Lib.hid ((Below.refl w.heap.size w).alloc (Nat.le_refl _) (.cells #[.string key, .slice A a.length c1, .slice B l.length c2] 27))
 have L1 := Lib.hid (bl_alloc L0.out (.cells #[.string key, .slice C b.length c3, .slice D m.length c4] 27))
 by_cases h : a = b
 · have hd : decide (a = b) = true := by simp [h]
   have HE := Lib.hid (show stEq a l b m = decide (l = m) by simp [stEq, h])
   clear h
   by_cases hn : l.length = m.length
   · have b0 : (l.length != m.length) = false := by simp [hn]
     have b1 : ((l.length : Int) != (m.length : Int)) = false := by simp [hn]
     have HN := Lib.hid hn
     clear hn
     go_enter Try.func19, Try.ntmps19
     go_wp2_with (go_at_call 18; refine (lsameDots_any _ _ _ _ a b _ (HA.out.below L1.out) (HB.out.below L1.out)).mono ?_; rintro e w1 ⟨rfl, ⟨n, rfl⟩⟩)
     go_loopw [5] (fun i w' => ∃ k : Nat, k ≤ l.length ∧ i = .int .i64 k ∧ Hid (l.take k = m.take k) ∧ Hid (Drawn ((w.alloc (.cells #[.string key, .slice A a.length c1, .slice B l.length c2] 27)).alloc (.cells #[.string key, .slice C b.length c3, .slice D m.length c4] 27)) w')) (fun i _ => l.length - (intOf i).toNat)
     case atStart => exact ⟨0, Nat.zero_le _, rfl, Lib.hid (by simp), Lib.hid ((Drawn.refl _).drewN _)⟩
     case round =>
      obtain ⟨k, hk, rfl, hsame, hw⟩ := hrel
      obtain ⟨nd, ed⟩ := hw.out
      subst ed
      by_cases hlt : k < l.length
      · have hlt2 : k < m.length := by have := HN.out; omega
        have i0 : (0 : Int) ≤ (k : Int) := by omega
        have i1 : (k : Int) < (l.length : Int) := by omega
        have i2 : (k : Int) < (m.length : Int) := by omega
        obtain ⟨ad, rfl, hb1, x0, x1, x2, x3⟩ := sib_at HL.out k hlt
        obtain ⟨bd, rfl, hb2, y0, y1, y2, y3⟩ := sib_at HM.out k hlt2
        by_cases hq : l[k] = m[k]
        · have q0 : sEq l[k].d.a l[k].d.n l[k].gone l[k].v m[k].d.a m[k].d.n m[k].gone m[k].v = true := by rw [hq]; simp [dEq, sEq]
          have HQ := Lib.hid hq
          clear hq
          go_wp2
          go_quiet (fail)
          go_wp2
          go_roundw
          case rel => exact ⟨k + 1, by omega, by go_num, Lib.hid (by rw [List.take_succ_eq_append_getElem hlt, List.take_succ_eq_append_getElem hlt2, hsame.out, HQ.out]), Lib.hid ⟨_, rfl⟩⟩
          case measure => simp [intOf]; omega
        · have HV := Lib.hid (show decide (l = m) = false by simp; intro e; subst e; exact hq rfl)
          have q0 : sEq l[k].d.a l[k].d.n l[k].gone l[k].v m[k].d.a m[k].d.n m[k].gone m[k].v = false := by
           rw [Bool.eq_false_iff]
           intro h
           exact hq (sEq_iff.1 h)
          clear hq
          go_wp2
          go_quiet (fail)
          go_wp2
          go_ret
          exact ⟨ret_bool (by rw [HE.out, HV.out]), (by repeat (first | exact Below.refl _ _ | refine bl_drewN ?_ _ | refine bl_drew ?_ | refine bl_alloc ?_ _))⟩
      · obtain rfl : k = l.length := by omega
        have HV := Lib.hid (show decide (l = m) = true by
         have := hsame.out
         rw [List.take_length, HN.out, List.take_length] at this
         simpa using this)
        have hge : ¬ ((l.length : Int) < (l.length : Int)) := by omega
        clear hge
        go_wp2
        go_ret
        exact ⟨ret_bool (by rw [HE.out, HV.out]), (by repeat (first | exact Below.refl _ _ | refine bl_drewN ?_ _ | refine bl_drew ?_ | refine bl_alloc ?_ _))⟩
   · have HV := Lib.hid (show decide (l = m) = false by simp; intro e; exact hn (by rw [e]))
     have b0 : (l.length != m.length) = true := by simpa using hn
     have b1 : ((l.length : Int) != (m.length : Int)) = true := by simp; omega
     clear hn
     go_enter Try.func19, Try.ntmps19
     go_wp2_with (go_at_call 18; refine (lsameDots_any _ _ _ _ a b _ (HA.out.below L1.out) (HB.out.below L1.out)).mono ?_; rintro e w1 ⟨rfl, ⟨n, rfl⟩⟩)
     go_ret
     exact ⟨ret_bool (by rw [HE.out, HV.out]), (by repeat (first | exact Below.refl _ _ | refine bl_drewN ?_ _ | refine bl_drew ?_ | refine bl_alloc ?_ _))⟩
 · have HE := Lib.hid (show stEq a l b m = false by simp [stEq, h])
   have hd : decide (a = b) = false := by simp [h]
   clear h
   go_enter Try.func19, Try.ntmps19
   go_wp2_with (go_at_call 18; refine (lsameDots_any _ _ _ _ a b _ (HA.out.below L1.out) (HB.out.below L1.out)).mono ?_; rintro e w1 ⟨rfl, ⟨n, rfl⟩⟩)
   go_ret
   exact ⟨ret_bool HE.out.symm, (by repeat (first | exact Below.refl _ _ | refine bl_drewN ?_ _ | refine bl_drew ?_ | refine bl_alloc ?_ _))⟩
theorem lsame_ne (k1 k2 : ByteArray) (hk : k1 ≠ k2) (A B C D : Option Addr) (c1 c2 c3 c4 n1 n2 n3 n4 : Nat) (w : World) :
 Calls Try.prog 19 #[.agg #[.string k1, .slice A n1 c1, .slice B n2 c2], .agg #[.string k2, .slice C n3 c3, .slice D n4 c4]] w fun e w' => e = .returned (.bool false) ∧ Below w.heap.size w w' := by
 have kk : (k1.toList == k2.toList) = false := by rw [str_eq]; simpa using hk
 clear hk
 go_enter Try.func19, Try.ntmps19
 go_wp2
 go_ret
 exact ⟨rfl, (by repeat (first | exact Below.refl _ _ | refine bl_drewN ?_ _ | refine bl_drew ?_ | refine bl_alloc ?_ _))⟩
theorem lsame_any (k1 k2 : ByteArray) (A B C D : Option Addr) (c1 c2 c3 c4 n1 n2 n3 n4 : Nat) (a b : List Dot) (l m : List Sib) (r : Bool) (w : World) (ha : GR.Rd dotK w A a) (hl : GR.Rd sibK w B l) (hb : GR.Rd dotK w C b) (hm : GR.Rd sibK w D m) (h1 : n1 = a.length) (h2 : n2 = l.length) (h3 : n3 = b.length) (h4 : n4 = m.length) (hr : (decide (k1 = k2) && stEq a l b m) = r) :
 Calls Try.prog 19 #[.agg #[.string k1, .slice A n1 c1, .slice B n2 c2], .agg #[.string k2, .slice C n3 c3, .slice D n4 c4]] w fun e w' => e = .returned (.bool r) ∧ Below w.heap.size w w' := by
 subst h1 h2 h3 h4 hr
 by_cases hk : k1 = k2
 · subst hk
   rw [show (decide (k1 = k1) && stEq a l b m) = stEq a l b m by simp]
   exact lsame_key k1 A B C D c1 c2 c3 c4 a b l m w ha hl hb hm
 · rw [decide_eq_false hk, Bool.false_and]
   exact lsame_ne k1 k2 hk A B C D c1 c2 c3 c4 _ _ _ _ w
end Go.Proofs.Ytljfigikkajlnaa
