/- slices.DeleteFunc at windows that the call owns, with the closure of OffOf: those that are long enough stay, in their order. Condition: at most 3000 windows, numbers up to 10^15. -/
import Derived.Test.YtlbhphfmckhimaaDoorRestsWorked
import Derived.Lib.SliceRun
namespace Go.Proofs.YtlbhphfmckhimaaDoor
open Go.RowKit
set_option linter.unusedVariables false

def shortB (least : Int) (p : Int × Int) : Bool := decide (p.2 - p.1 < least)
def IdxWPost (l : List (Int × Int)) (least : Int) (w : World) (e : Ending) (w' : World) : Prop :=
  ∃ i : Int, e = .returned (.int .i64 i) ∧ (i = -1 ∧ (∀ p ∈ l, shortB least p = false) ∨ ∃ k : Nat, i = k ∧ ∃ h : k < l.length, shortB least l[k] = true ∧ ∀ p ∈ l.take k, shortB least p = false) ∧ w.grownBy w' none
end Go.Proofs.YtlbhphfmckhimaaDoor
