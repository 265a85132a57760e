/- The law TopTidyScoresTheSame holds of its row. Condition: as the jjq asks. -/
import Derived.Test.YtbamhgaghngjiaaGreatDoorSxba
import Derived.Test.YtbamhgaghngjiaaGreatDoorSxbc
namespace Go.Proofs.YtbamhgaghngjiaaGreatDoor.topTidyScoresTheSame
open Go.ChangeShapes Go.WideShapes Go.ChangeAt Go.RowKit
open Go.ChangeMaps (open_string shut_string)
set_option linter.unusedVariables false


theorem jlx : Rows.topTidyScoresTheSameRow.holds Tryz.pinned (OpenSpec.ofChange Rows.topTidyScoresTheSameSpec) :=
 OpenClaim.holds_of_wide 6 Tryz.f6 rfl rfl rfl rfl rfl rfl rfl ⟨rfl, rfl, rfl, rfl, rfl⟩ rfl rfl rfl rfl rfl closedF Tryz.func6 jr0
  (of_decide_eq_true (by kernel_rfl)) (by unfold Func.isWrapper; first | (rw [if_pos (by decide +kernel)]; kernel_rfl) | (rw [if_neg (by decide +kernel)]; exact ⟨rfl, rfl⟩))
  (fun os started H enc _ => jj5 os started H enc)
end Go.Proofs.YtbamhgaghngjiaaGreatDoor.topTidyScoresTheSame
