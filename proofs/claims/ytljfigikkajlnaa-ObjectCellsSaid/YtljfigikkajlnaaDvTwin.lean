/- DERIVED. A state's twin. -/
import Derived.Test.YtljfigikkajlnaaDvOwn
import Derived.Test.YtljfigikkajlnaaSegBase
import Derived.Test.YtljfigikkajlnaaWEqStruct
import Derived.WalkMore
import Derived.Lib.Strings
import Derived.Laws.Runes
namespace Go.Proofs.Ytljfigikkajlnaa
open Go.RowKit
set_option linter.unusedVariables false
set_option linter.unusedSimpArgs false

namespace GR
variable {α : Type} {K : Kind α}
variable {P : Program} {ops : Array Oper} {o : Oper} {a : Act} {Q : Exit → Act → World → Prop}
/-- append(v, x...) at a step of a region that draws its order. -/
theorem step_all {w : World} {E : Prop} {K' : Act → World → Prop} {i : TypeInfo} {z : Value} (hgd : o.guard = none) (s x : Operand) (t : TypeId)
    (ho : o.op = .call { callee := .builtin .append, args := #[s, x], argTypes := #[t, t] })
    (ht : P.underlying t = some (.slice K.e)) (hi : P.info? K.e = some i) (hz : i.zero = some z) (hsize : i.size = K.s) (hby : i.bytes = K.b) (hzs : z.cells.size = K.s)
    (B : Nat) (v : Value) (xs : List α) (hs : a.eval s = v) (hown : Own K w B v xs) (A : Option Addr) (n c : Nat) (ys : List α) (hx : a.eval x = .slice A n c) (hn : n = ys.length) (hr : Rd K w A ys)
    (hb : (xs.length + ys.length) * K.b ≤ 140737488355328) (hbase : B ≤ w.heap.size)
    (h : ∀ v' w', Own K w' B v' (xs ++ ys) → w.grownBy w' v.ownBlock → (v'.ownBlock = v.ownBlock ∨ v'.ownBlock = some w.heap.size) → K' (a.put o.dst v') w') :
    if Region.wanted o (yielded ops a.tmps) = true then Oper.wp P o a w K' Q else E := by
  subst hn
  have hlen : xs.length + ys.length ≤ 140737488355328 := Nat.le_trans (Nat.le_mul_of_pos_right _ K.hb) hb
  refine step_append_any w hgd s x t ho B K.e i z K.s K.b ht hi hz hsize hby hzs K.hs v xs.length (cs K xs) hs hown w.heap.size A ys.length c (cs K ys) hx hr.2 (cs_one ys) (by simp only [maxLen]; omega) hb hbase fun v' w' h1 h2 h3 => h v' w' ?_ h2 h3
  show w'.ownsRow B K.e K.s v' (xs ++ ys).length (cs K (xs ++ ys))
  rw [List.length_append, cs_append]; exact h1
theorem lit_at (w : World) (B H : Nat) (hB : B ≤ w.heap.size) (hH : w.heap.size = H) : Own K (w.alloc (.cells #[] K.e)) B (.slice (some ⟨H, 0, none⟩) 0 0) [] := by
  subst hH; exact Own.lit0 w B hB
end GR

theorem own_grown2 {α β : Type} {K : GR.Kind α} {J : GR.Kind β} {w w' : World} {B B' : Nat} {u v : Value} {l : List α} {m : List β} (hg : w.grownBy w' v.ownBlock) (h : GR.Own K w B u l) (k : GR.Own J w B' v m) (hne : K.e ≠ J.e) : GR.Own K w' B u l := h.grown hg (own_apart h k hne)
end Go.Proofs.Ytljfigikkajlnaa
