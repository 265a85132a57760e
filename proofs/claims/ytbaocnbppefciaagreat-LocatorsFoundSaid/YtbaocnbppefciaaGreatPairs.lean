/- A slice of windows that the program has made, as a list of pairs; slices.Equal at two that are equal. No condition. -/
import Derived.Test.YtbaocnbppefciaaGreatInts
namespace Go.Proofs.YtbaocnbppefciaaGreat
open Go.RowKit
set_option linter.unusedVariables false

def wcells (l : List (Int × Int)) : List Value := l.flatMap fun p => [.int .i64 p.1, .int .i64 p.2]
theorem wcells_len (l : List (Int × Int)) : (wcells l).length = l.length * 2 := by
  induction l with
  | nil => rfl
  | cons p r ih => simp only [wcells, List.flatMap_cons, List.length_append, List.length_cons, List.length_nil] at ih ⊢; omega
theorem wcells_snoc (l : List (Int × Int)) (x y : Int) : wcells (l ++ [(x, y)]) = wcells l ++ [.int .i64 x, .int .i64 y] := by
  simp [wcells]
theorem wcells_at (l : List (Int × Int)) (k : Nat) (h : k < l.length) : (wcells l)[k * 2]? = some (.int .i64 l[k].1) ∧ (wcells l)[k * 2 + 1]? = some (.int .i64 l[k].2) := by
  induction l generalizing k with
  | nil => simp at h
  | cons p r ih =>
    have e : wcells (p :: r) = .int .i64 p.1 :: .int .i64 p.2 :: wcells r := rfl
    rw [e]
    cases k with
    | zero => simp
    | succ k =>
      have := ih k (by simpa using h)
      rw [show (k + 1) * 2 = k * 2 + 1 + 1 from by omega]
      simpa using this
theorem two_cells (w : World) (x y : Int) (t : TypeId) : ∀ j u, ([Value.int .i64 x, .int .i64 y])[j]? = some u → (w.alloc (.cells #[.int .i64 x, .int .i64 y] t)).cell? ((⟨w.heap.size, 0, none⟩ : Addr).add j) = some u := by
  intro j u hu
  have hb := (Blk.new w t #[.int .i64 x, .int .i64 y]).cell j
  have hadd : (⟨w.heap.size, 0, none⟩ : Addr).add j = ⟨w.heap.size, j, none⟩ := by unfold Addr.add; split <;> simp_all
  rw [hadd, hb]
  simpa using hu
theorem two_oneCell (x y : Int) : ∀ u ∈ [Value.int .i64 x, .int .i64 y], u.oneCell' = true := by
  intro u hu; simp at hu; rcases hu with rfl | rfl <;> rfl

end Go.Proofs.YtbaocnbppefciaaGreat
