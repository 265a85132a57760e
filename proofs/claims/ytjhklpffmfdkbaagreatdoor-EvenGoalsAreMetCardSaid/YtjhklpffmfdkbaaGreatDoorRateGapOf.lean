/- The walk over pileref1.GapOf. Condition: times without error. -/
import Derived.Test.YtjhklpffmfdkbaaGreatDoorRateGaps
namespace Go.Proofs.YtjhklpffmfdkbaaGreatDoor
open Go.RowKit
set_option linter.unusedVariables false

def gapOfI (gs : List (Int × Int)) : Int × Int := match gs with | [] => (0, 0) | g :: r => r.foldl gapPick g
def gapAt (gs : List (Int × Int)) (k : Nat) (st : Int × Int) : Int × Int := if k = 0 then gapOfI gs else (gs.drop k).foldl gapPick st
theorem gapAt_first (gs : List (Int × Int)) (st : Int × Int) (h : 0 < gs.length) : gapAt gs 0 st = gapAt gs 1 gs[0] := by
  cases gs with
  | nil => simp at h
  | cons g r => rfl
theorem gapAt_next (gs : List (Int × Int)) (k : Nat) (st : Int × Int) (h0 : 0 < k) (h : k < gs.length) : gapAt gs k st = gapAt gs (k + 1) (gapPick st gs[k]) := by
  unfold gapAt
  rw [if_neg (by omega), if_neg (by omega), List.drop_eq_getElem_cons h]; rfl
theorem gapAt_end (gs : List (Int × Int)) (k : Nat) (st : Int × Int) (h : gs.length ≤ k) (h0 : k = 0 → st = (0, 0)) : gapAt gs k st = st := by
  unfold gapAt
  by_cases hk : k = 0
  · rw [if_pos hk, h0 hk]
    have : gs = [] := List.eq_nil_of_length_eq_zero (by omega)
    subst this; rfl
  · rw [if_neg hk, List.drop_eq_nil_of_le h]; rfl

end Go.Proofs.YtjhklpffmfdkbaaGreatDoor
