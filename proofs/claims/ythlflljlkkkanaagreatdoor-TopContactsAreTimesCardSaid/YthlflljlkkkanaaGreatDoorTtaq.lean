/- The facts of the program's text that the card of TopContactsAreTimes asks for, together. No condition. -/
import Derived.Test.YthlflljlkkkanaaGreatDoorTtap
namespace Go.Proofs.YthlflljlkkkanaaGreatDoor.topContactsAreTimes
open Go Go.RowKit
set_option maxRecDepth 100000 in
theorem closed : joinedFacts Tryz.pinned.checked.prog 3 Tryz.f3 Rows.topContactsAreTimesSpec Rows.topContactsAreTimesRow = true := by
 unfold joinedFacts
 simp only [Bool.and_eq_true]
 refine ⟨⟨⟨⟨⟨⟨⟨⟨⟨⟨⟨⟨⟨⟨⟨⟨⟨⟨⟨⟨⟨⟨⟨⟨⟨⟨⟨⟨⟨⟨⟨closed0, closed1⟩, closed2⟩, closed3⟩, closed4⟩, closed5⟩, closed6⟩, closed7⟩, closed8⟩, closed9⟩, closed10⟩, closed11⟩, closed12⟩, closed13⟩, closed14⟩, closed15⟩, closed16⟩, closed17⟩, closed18⟩, closed19⟩, closed20⟩, closed21⟩, closed22⟩, ?_⟩, ?_⟩, ?_⟩, ?_⟩, ?_⟩, ?_⟩, ?_⟩, closed30⟩, closed31⟩
 all_goals kernel_rfl
end Go.Proofs.YthlflljlkkkanaaGreatDoor.topContactsAreTimes
