/- The walks over the reference's around, apart, root, DistanceOf. Condition: sites without error. -/
import Derived.Test.YtnapbnkbchaanaaGreatDoorDist
namespace Go.Proofs.YtnapbnkbchaanaaGreatDoor
open Go.RowKit
set_option linter.unusedVariables false

end Go.Proofs.YtnapbnkbchaanaaGreatDoor
