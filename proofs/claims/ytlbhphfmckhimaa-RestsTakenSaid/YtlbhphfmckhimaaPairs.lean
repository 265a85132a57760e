/- A slice of windows that the program has made, as a list of pairs; slices.Equal at two that are equal. No condition. -/
import Derived.Test.YtlbhphfmckhimaaInts
namespace Go.Proofs.Ytlbhphfmckhimaa
open Go.RowKit
set_option linter.unusedVariables false

def wcells (l : List (Int × Int)) : List Value := l.flatMap fun p => [.int .i64 p.1, .int .i64 p.2]
theorem wcells_len (l : List (Int × Int)) : (wcells l).length = l.length * 2 := by
  induction l with
  | nil => rfl
  | cons p r ih => simp only [wcells, List.flatMap_cons, List.length_append, List.length_cons, List.length_nil] at ih ⊢; omega
theorem wcells_snoc (l : List (Int × Int)) (x y : Int) : wcells (l ++ [(x, y)]) = wcells l ++ [.int .i64 x, .int .i64 y] := by
  simp [wcells]
theorem wcells_at (l : List (Int × Int)) (k : Nat) (h : k < l.length) : (wcells l)[k * 2]? = some (.int .i64 l[k].1) ∧ (wcells l)[k * 2 + 1]? = some (.int .i64 l[k].2) := by
  induction l generalizing k with
  | nil => simp at h
  | cons p r ih =>
    have e : wcells (p :: r) = .int .i64 p.1 :: .int .i64 p.2 :: wcells r := rfl
    rw [e]
    cases k with
    | zero => simp
    | succ k =>
      have := ih k (by simpa using h)
      rw [show (k + 1) * 2 = k * 2 + 1 + 1 from by omega]
      simpa using this
theorem winInfo : (Try.prog.info? 27).map (fun i => (i.zero, i.size, i.bytes)) = some (some (.agg #[.int .i64 0, .int .i64 0]), 2, 16) := by kernel_rfl
theorem two_cells (w : World) (x y : Int) (t : TypeId) : ∀ j u, ([Value.int .i64 x, .int .i64 y])[j]? = some u → (w.alloc (.cells #[.int .i64 x, .int .i64 y] t)).cell? ((⟨w.heap.size, 0, none⟩ : Addr).add j) = some u := by
  intro j u hu
  have hb := (Blk.new w t #[.int .i64 x, .int .i64 y]).cell j
  have hadd : (⟨w.heap.size, 0, none⟩ : Addr).add j = ⟨w.heap.size, j, none⟩ := by unfold Addr.add; split <;> simp_all
  rw [hadd, hb]
  simpa using hu
theorem two_oneCell (x y : Int) : ∀ u ∈ [Value.int .i64 x, .int .i64 y], u.oneCell' = true := by
  intro u hu; simp at hu; rcases hu with rfl | rfl <;> rfl

/-- The windows of a slice, that lies in a block from base on. -/
def WinsFrom (base : Nat) (w : World) (v : Value) (l : List (Int × Int)) : Prop := w.ownsRow base 27 2 v l.length (wcells l)
abbrev Wins (w : World) (v : Value) (l : List (Int × Int)) : Prop := WinsFrom 0 w v l
theorem WinsFrom.lowTo {base base' : Nat} {w : World} {v : Value} {l : List (Int × Int)} (h : WinsFrom base w v l) (hb : base' ≤ base) : WinsFrom base' w v l := ownsRow_low h hb
theorem WinsFrom.low {base : Nat} {w : World} {v : Value} {l : List (Int × Int)} (h : WinsFrom base w v l) : Wins w v l := ownsRow_low h (Nat.zero_le _)
theorem WinsFrom.grown {base : Nat} {w w' : World} {v : Value} {l : List (Int × Int)} (h : WinsFrom base w v l) (hg : w.grownBy w' none) : WinsFrom base w' v l := ownsRow_grown h hg
theorem WinsFrom.alloc {base : Nat} {w : World} {v : Value} {l : List (Int × Int)} (h : WinsFrom base w v l) (o : Obj) : WinsFrom base (w.alloc o) v l := ownsRow_grown h (World.grownBy_alloc w o none)
theorem WinsFrom.other {base b : Nat} {w w' : World} {v : Value} {l : List (Int × Int)} (h : WinsFrom base w v l) (hg : w.grownBy w' (some b)) (hb : b < base) : WinsFrom base w' v l := ownsRow_other h hg hb
theorem WinsFrom.nil (base : Nat) (w : World) : WinsFrom base w (.slice none 0 0) [] := World.ownsRow_nil _ _ _ _
theorem WinsFrom.shape {base : Nat} {w : World} {v : Value} {l : List (Int × Int)} (h : WinsFrom base w v l) :
    ∃ A c, v = .slice A l.length c ∧ l.length ≤ 9223372036854775807 ∧ (0 < l.length → ∃ g, A = some ⟨g, 0, none⟩ ∧ base ≤ g ∧ g < w.heap.size) := ownsRow_shape h
theorem WinsFrom.at1 {base : Nat} {w : World} {g c : Nat} {l : List (Int × Int)} (h : WinsFrom base w (.slice (some ⟨g, 0, none⟩) l.length c) l) (k : Nat) (hk : k < l.length) : w.cell? ⟨g, k * 2, none⟩ = some (.int .i64 l[k].1) ∧ w.cell? ⟨g, k * 2 + 1, none⟩ = some (.int .i64 l[k].2) := by
  have hc := wcells_at l k hk
  rw [World.ownsRow.cellAt h (k * 2) (by omega), World.ownsRow.cellAt h (k * 2 + 1) (by omega)]
  exact hc
end Go.Proofs.Ytlbhphfmckhimaa
