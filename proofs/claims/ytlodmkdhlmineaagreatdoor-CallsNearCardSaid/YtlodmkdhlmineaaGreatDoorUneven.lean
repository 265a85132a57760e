/- The walk over key.Uneven at right arguments: the marks and gaps that are more than half a unit away. Condition: no error. -/
import Derived.Test.YtlodmkdhlmineaaGreatDoorNear
import Derived.Test.YtlodmkdhlmineaaGreatDoorUnit
namespace Go.Proofs.YtlodmkdhlmineaaGreatDoor
open Go.RowKit
set_option linter.unusedVariables false
set_option linter.unusedSimpArgs false

def unevTo (l : List Int) (u : Int) : Nat → List Int
  | 0 => []
  | k + 1 => if u < 2 * nearO (markB k) (l.getD k 0) u then unevTo l u k ++ [(k : Int)] else unevTo l u k
theorem unevTo_len (l : List Int) (u : Int) (k : Nat) : (unevTo l u k).length ≤ k := by
  induction k with
  | zero => exact Nat.le_refl _
  | succ k ih => unfold unevTo; split <;> (try simp) <;> omega

/-- What Uneven hands back. -/
def UnevPost (l : List Int) (u : Int) (w : World) (r : Ending) (w' : World) : Prop :=
  ∃ o, r = .returned (.tuple #[o, .int .i64 (unitE l u)]) ∧ IntsFrom w.heap.size w' o (if unitE l u = 0 then unevTo l u l.length else []) ∧ w.grownBy w' none
theorem spanE_zero {x lo hi : Int} (h : spanE x lo hi = 0) : lo ≤ x ∧ x ≤ hi := by
  rcases spanE_cases x lo hi with ⟨_, h1, h2⟩ | ⟨h1, _⟩
  · exact ⟨h1, h2⟩
  · omega
theorem unitE_zero {l : List Int} {u : Int} (h : unitE l u = 0) : marksE l = 0 ∧ 1 ≤ u ∧ u ≤ 2000 := by
  unfold unitE at h
  by_cases h0 : marksE l = 0
  · rw [if_pos h0] at h
    exact ⟨h0, spanE_zero h⟩
  · rw [if_neg h0] at h
    exact absurd h h0
end Go.Proofs.YtlodmkdhlmineaaGreatDoor
