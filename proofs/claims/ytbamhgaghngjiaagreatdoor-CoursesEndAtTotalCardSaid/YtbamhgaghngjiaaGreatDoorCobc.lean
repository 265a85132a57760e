/- The law CoursesEndAtTotal holds of its row. Condition: as the jm9 asks. -/
import Derived.Test.YtbamhgaghngjiaaGreatDoorCoaz
import Derived.Test.YtbamhgaghngjiaaGreatDoorCobb
namespace Go.Proofs.YtbamhgaghngjiaaGreatDoor.coursesEndAtTotal
open Go.ChangeShapes Go.WideShapes Go.ChangeAt Go.RowKit
open Go.ChangeMaps (open_string shut_string)
set_option linter.unusedVariables false


theorem jo1 : Rows.coursesEndAtTotalRow.holds Tryz.pinned (OpenSpec.ofChange Rows.coursesEndAtTotalSpec) :=
 OpenClaim.holds_of_wide 4 Tryz.f4 rfl rfl rfl rfl rfl rfl rfl ⟨rfl, rfl, rfl, rfl, rfl⟩ rfl rfl rfl rfl rfl closedF Tryz.func4 jvh
  (of_decide_eq_true (by kernel_rfl)) (by unfold Func.isWrapper; first | (rw [if_pos (by decide +kernel)]; kernel_rfl) | (rw [if_neg (by decide +kernel)]; exact ⟨rfl, rfl⟩))
  (fun os started H enc _ => jsq os started H enc)
end Go.Proofs.YtbamhgaghngjiaaGreatDoor.coursesEndAtTotal
