/- The walk over the reference's MiddleOf. Condition: the signs are right. -/
import Derived.Test.YtnapbnkbchaanaaGreatDoorAreaFor
namespace Go.Proofs.YtnapbnkbchaanaaGreatDoor
open Go.RowKit
set_option linter.unusedVariables false

end Go.Proofs.YtnapbnkbchaanaaGreatDoor
