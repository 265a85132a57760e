/- The walks over the reference's OffOf and WorkedOf. Condition: moments from 0 to the end of all contests, at most 2000; a least length from 1 to 10^9. -/
import Derived.Test.YtlbhphfmckhimaaDoorOffOf
import Derived.Test.YtlbhphfmckhimaaDoorRestsWorked
namespace Go.Proofs.YtlbhphfmckhimaaDoor
open Go.RowKit
set_option linter.unusedVariables false

theorem offL_keep (l : List Int) (a z least : Int) : (gapsL 1 a (l ++ [z])).filter (keepB least) = offL l a z least := by
  unfold offL restsL
  exact congrArg (fun f => (gapsL 1 a (l ++ [z])).filter f) (funext fun p => keep_long least p)

end Go.Proofs.YtlbhphfmckhimaaDoor
