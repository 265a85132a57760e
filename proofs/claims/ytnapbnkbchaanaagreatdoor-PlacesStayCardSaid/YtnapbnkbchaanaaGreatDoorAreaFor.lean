/- The walks over the reference's sizeOf and AreaFor. Printed by gen_areafor.py. Condition: the signs are right. -/
import Derived.Test.YtnapbnkbchaanaaGreatDoorLoc3
namespace Go.Proofs.YtnapbnkbchaanaaGreatDoor
open Go.RowKit
set_option linter.unusedVariables false
set_option linter.unusedSimpArgs false

end Go.Proofs.YtnapbnkbchaanaaGreatDoor
