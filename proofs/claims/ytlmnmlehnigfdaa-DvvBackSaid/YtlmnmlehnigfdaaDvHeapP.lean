/- DERIVED. What the siblings of a join are, how many, of what counts. No program in sight. -/
import Derived.Test.YtlmnmlehnigfdaaDvJoin
import Derived.Test.YtlmnmlehnigfdaaDvSt
namespace Go.Proofs.Ytlmnmlehnigfdaa
open Go.RowKit
set_option linter.unusedVariables false
set_option linter.unusedSimpArgs false

theorem sjoin_mem {ca cb : Dot → Bool} : ∀ (l m : List Sib) (x : Sib), x ∈ sjoin ca cb l m → x ∈ l ∨ x ∈ m
  | [], [], x, h => by rw [sj_end] at h; cases h
  | [], y :: m, x, h => by
    rw [sjoin] at h
    split at h
    · rcases sjoin_mem [] m x h with h | h
      · exact .inl h
      · exact .inr (List.mem_cons_of_mem _ h)
    · rcases List.mem_cons.1 h with rfl | h
      · exact .inr (by simp)
      · rcases sjoin_mem [] m x h with h | h
        · exact .inl h
        · exact .inr (List.mem_cons_of_mem _ h)
  | y :: l, [], x, h => by
    rw [sjoin] at h
    split at h
    · rcases sjoin_mem l [] x h with h | h
      · exact .inl (List.mem_cons_of_mem _ h)
      · exact .inr h
    · rcases List.mem_cons.1 h with rfl | h
      · exact .inl (by simp)
      · rcases sjoin_mem l [] x h with h | h
        · exact .inl (List.mem_cons_of_mem _ h)
        · exact .inr h
  | y :: l, z :: m, x, h => by
    rw [sjoin] at h
    split at h
    · split at h
      · rcases sjoin_mem l (z :: m) x h with h | h
        · exact .inl (List.mem_cons_of_mem _ h)
        · exact .inr h
      · rcases List.mem_cons.1 h with rfl | h
        · exact .inl (by simp)
        · rcases sjoin_mem l (z :: m) x h with h | h
          · exact .inl (List.mem_cons_of_mem _ h)
          · exact .inr h
    · split at h
      · split at h
        · rcases sjoin_mem (y :: l) m x h with h | h
          · exact .inl h
          · exact .inr (List.mem_cons_of_mem _ h)
        · rcases List.mem_cons.1 h with rfl | h
          · exact .inr (by simp)
          · rcases sjoin_mem (y :: l) m x h with h | h
            · exact .inl h
            · exact .inr (List.mem_cons_of_mem _ h)
      · rcases List.mem_cons.1 h with rfl | h
        · unfold lesS
          split
          · exact .inr (by simp)
          · exact .inl (by simp)
        · rcases sjoin_mem l m x h with h | h
          · exact .inl (List.mem_cons_of_mem _ h)
          · exact .inr (List.mem_cons_of_mem _ h)
termination_by l m => l.length + m.length
theorem vmax_pos : ∀ (a b : List Dot), (∀ d ∈ a, 0 ≤ d.n) → (∀ d ∈ b, 0 ≤ d.n) → ∀ d ∈ vmax a b, 0 ≤ d.n
  | [], b, _, hb => by rw [vmax_nil_left]; exact hb
  | x :: a, [], ha, _ => by rw [vmax_nil_right]; exact ha
  | x :: a, y :: b, ha, hb => by
    have ha2 : ∀ d ∈ a, 0 ≤ d.n := fun d hd => ha d (List.mem_cons_of_mem _ hd)
    have hb2 : ∀ d ∈ b, 0 ≤ d.n := fun d hd => hb d (List.mem_cons_of_mem _ hd)
    have hx := ha x (by simp)
    have hy := hb y (by simp)
    rw [vmax]
    split
    · intro d hd
      rcases List.mem_cons.1 hd with rfl | hd
      · exact hx
      · exact vmax_pos a (y :: b) ha2 hb d hd
    · split
      · intro d hd
        rcases List.mem_cons.1 hd with rfl | hd
        · exact hy
        · exact vmax_pos (x :: a) b ha hb2 d hd
      · intro d hd
        rcases List.mem_cons.1 hd with rfl | hd
        · show 0 ≤ max x.n y.n
          omega
        · exact vmax_pos a b ha2 hb2 d hd
termination_by a b => a.length + b.length
theorem join_small (a : List Dot) (l : List Sib) (b : List Dot) (m : List Sib) : (joinA a l b m).length ≤ 64 ∧ (joinL a l b m).length ≤ 64 := by
  rcases join_cases a l b m with ⟨h, h1, h2⟩ | ⟨_, h1, h2⟩
  · rw [h1, h2]
    unfold joinE at h
    split at h
    · split at h
      · split at h
        · exact ⟨‹_›, ‹_›⟩
        · omega
      · omega
    · omega
  · rw [h1, h2]; simp
theorem join_pos {a : List Dot} {l : List Sib} {b : List Dot} {m : List Sib} (na : ∀ d ∈ a, 0 ≤ d.n) (nl : ∀ x ∈ l, 0 ≤ x.d.n) (nb : ∀ d ∈ b, 0 ≤ d.n) (nm : ∀ x ∈ m, 0 ≤ x.d.n) : (∀ d ∈ joinA a l b m, 0 ≤ d.n) ∧ ∀ x ∈ joinL a l b m, 0 ≤ x.d.n := by
  rcases join_cases a l b m with ⟨_, h1, h2⟩ | ⟨_, h1, h2⟩
  · rw [h1, h2]
    refine ⟨vmax_pos a b na nb, fun x hx => ?_⟩
    rcases sjoin_mem l m x hx with h | h
    · exact nl x h
    · exact nm x h
  · rw [h1, h2]; exact ⟨fun d hd => (by cases hd), fun d hd => (by cases hd)⟩
/-- A join of states whose slices are spelled by their own numbers. -/
theorem join_at (A B C D : Option Addr) (c1 c2 c3 c4 n m n' m' : Nat) (a b : List Dot) (l k : List Sib) (w : World) (ha : GR.Rd dotK w A a) (hl : GR.Rd sibK w B l) (hb : GR.Rd dotK w C b) (hm : GR.Rd sibK w D k) (h1 : n = a.length) (h2 : m = l.length) (h3 : n' = b.length) (h4 : m' = k.length) (hca : n ≤ c1) (hcb : n' ≤ c3)
    (na : ∀ d ∈ a, 0 ≤ d.n) (nl : ∀ x ∈ l, 0 ≤ x.d.n) (nb : ∀ d ∈ b, 0 ≤ d.n) (nm : ∀ x ∈ k, 0 ≤ x.d.n) :
    Calls Try.prog 20 #[.agg #[.slice A n c1, .slice B m c2], .agg #[.slice C n' c3, .slice D m' c4]] w fun e w' => ∃ v1 v2, e = .returned (.tuple #[.agg #[v1, v2], .int .i64 (joinE a l b k)]) ∧ OwnS w' w.heap.size v1 v2 (joinA a l b k) (joinL a l b k) ∧ Below w.heap.size w w' := by
  subst h1 h2 h3 h4
  refine (join_any A B C D c1 c2 c3 c4 a b l k w ha hl hb hm hca hcb na nl nb nm).mono ?_
  rintro e w' ⟨v1, v2, rfl, h1, h2, h3⟩
  exact ⟨v1, v2, rfl, ⟨h1, h2⟩, h3⟩
end Go.Proofs.Ytlmnmlehnigfdaa
