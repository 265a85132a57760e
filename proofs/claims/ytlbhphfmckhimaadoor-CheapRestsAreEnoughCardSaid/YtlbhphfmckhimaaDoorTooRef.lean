/- The walk over the reference's TooLongOf. Condition: times and rests without error. -/
import Derived.Test.YtlbhphfmckhimaaDoorOffRef
import Derived.Test.YtlbhphfmckhimaaDoorTimes
import Derived.Test.YtlbhphfmckhimaaDoorTooLong
namespace Go.Proofs.YtlbhphfmckhimaaDoor
open Go.RowKit
set_option linter.unusedVariables false

def tooM (o : Option Nat) : Int := match o with | none => -1 | some i => i
end Go.Proofs.YtlbhphfmckhimaaDoor
