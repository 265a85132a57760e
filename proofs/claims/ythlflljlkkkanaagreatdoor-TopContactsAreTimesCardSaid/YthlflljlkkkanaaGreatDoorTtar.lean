/- The law TopContactsAreTimes holds of its row. Condition: as the walk asks. -/
import Derived.Test.YthlflljlkkkanaaGreatDoorTtao
import Derived.Test.YthlflljlkkkanaaGreatDoorTtaq
namespace Go.Proofs.YthlflljlkkkanaaGreatDoor.topContactsAreTimes
open Go.ChangeShapes Go.WideShapes Go.ChangeAt Go.RowKit
open Go.ChangeMaps (open_string shut_string)
set_option linter.unusedVariables false


theorem over : Rows.topContactsAreTimesRow.holds Tryz.pinned (OpenSpec.ofChange Rows.topContactsAreTimesSpec) :=
 OpenClaim.holds_of_wide 3 Tryz.f3 rfl rfl rfl rfl rfl rfl rfl ⟨rfl, rfl, rfl, rfl, rfl⟩ rfl rfl rfl rfl rfl closedF Tryz.func3 closed
  (of_decide_eq_true (by kernel_rfl)) (by unfold Func.isWrapper; first | (rw [if_pos (by decide +kernel)]; kernel_rfl) | (rw [if_neg (by decide +kernel)]; exact ⟨rfl, rfl⟩))
  (fun os started H enc _ => lifted os started H enc)
end Go.Proofs.YthlflljlkkkanaaGreatDoor.topContactsAreTimes
