/- The facts of the program's text that the card of CoursesEndAtTotal asks for, together. No condition. -/
import Derived.Test.YtbamhgaghngjiaaGreatDoorCoba
namespace Go.Proofs.YtbamhgaghngjiaaGreatDoor.coursesEndAtTotal
open Go Go.RowKit
set_option maxRecDepth 100000 in
theorem jvh : joinedFacts Tryz.pinned.checked.prog 4 Tryz.f4 Rows.coursesEndAtTotalSpec Rows.coursesEndAtTotalRow = true := by
 unfold joinedFacts
 simp only [Bool.and_eq_true]
 refine ⟨⟨⟨⟨⟨⟨⟨⟨⟨⟨⟨⟨⟨⟨⟨⟨⟨⟨⟨⟨⟨⟨⟨⟨⟨⟨⟨⟨⟨⟨⟨js9, jta⟩, jtb⟩, jtc⟩, jtd⟩, jte⟩, jtf⟩, jtg⟩, jth⟩, jti⟩, jql⟩, jqm⟩, jqn⟩, jqo⟩, jqp⟩, jqq⟩, jqr⟩, jqs⟩, jqt⟩, jqu⟩, jqv⟩, jqw⟩, jqx⟩, ?_⟩, ?_⟩, ?_⟩, ?_⟩, ?_⟩, ?_⟩, ?_⟩, jqy⟩, jqz⟩
 all_goals kernel_rfl
end Go.Proofs.YtbamhgaghngjiaaGreatDoor.coursesEndAtTotal
