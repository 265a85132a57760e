/- The walk over pileref1.HoursOf. Condition: times without error, at most 1000 hours. -/
import Derived.Test.YtjhklpffmfdkbaaGreatDoorRateGapOf
namespace Go.Proofs.YtjhklpffmfdkbaaGreatDoor
open Go.RowKit
set_option linter.unusedVariables false

theorem hourL_len (l : List Int) (zt : Int) : ∀ (n : Nat) (f : Int), (hourL l zt n f).length = n
  | 0, _ => rfl
  | n + 1, f => by simp [hourL, hourL_len l zt n]
theorem hours_eq (a zt : Int) (h : a < zt) : ∃ n : Nat, (hoursI a zt).toNat = n ∧ hoursI a zt = n ∧ a + 3600000 * (n : Int) - 3600000 < zt ∧ zt ≤ a + 3600000 * (n : Int) := by
  refine ⟨(hoursI a zt).toNat, rfl, ?_⟩
  unfold hoursI
  omega

end Go.Proofs.YtjhklpffmfdkbaaGreatDoor
