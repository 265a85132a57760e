/- Plain law of a pattern that a string fits: how the reference looks. No program in sight, no condition. -/
import Derived.Test.YtlodmkdhlmineaaGreatDoorSplitPlain
namespace Go.Proofs.YtlodmkdhlmineaaGreatDoor
set_option linter.unusedVariables false
set_option linter.unusedSimpArgs false

/-- Does a string fit a pattern? -/
def fitL : List UInt8 → List UInt8 → Bool
  | [], s => s.isEmpty
  | c :: p, s => if c = 42 then (List.range (s.length + 1)).any (fun i => fitL p (s.drop i)) else match s with
    | [] => false
    | d :: r => (decide (c = 63) || decide (c = d)) && fitL p r
theorem fitL_any (p s : List UInt8) : fitL (42 :: p) s = (List.range (s.length + 1)).any (fun i => fitL p (s.drop i)) := by
  rw [fitL.eq_def]
  exact if_pos rfl
theorem fitL_star (p s : List UInt8) : fitL (42 :: p) s = (fitL p s || (!s.isEmpty && fitL (42 :: p) s.tail)) := by
  rw [fitL_any, List.range_succ_eq_map, List.any_cons, List.drop_zero, List.any_map]
  congr 1
  cases s with
  | nil => rfl
  | cons d r =>
    rw [fitL_any]
    rfl
theorem fitL_one (c : UInt8) (p s : List UInt8) (h : c ≠ 42) : fitL (c :: p) s = (!s.isEmpty && ((decide (c = 63) || decide (c = s.headD 0)) && fitL p s.tail)) := by
  rw [fitL.eq_def]
  refine (if_neg h).trans ?_
  cases s with
  | nil => rfl
  | cons d r => rfl
end Go.Proofs.YtlodmkdhlmineaaGreatDoor
