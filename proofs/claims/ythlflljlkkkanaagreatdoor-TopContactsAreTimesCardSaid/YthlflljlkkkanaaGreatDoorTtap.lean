/- The facts of the program's text that the card of TopContactsAreTimes asks for, each a theorem of its own. No condition. -/
import Derived.Test.YthlflljlkkkanaaGreatDoorTtan
import Derived.JoinedOf
namespace Go.Proofs.YthlflljlkkkanaaGreatDoor.topContactsAreTimes
open Go Go.RowKit
set_option maxRecDepth 100000 in
theorem closed0 : (Rows.topContactsAreTimesRow.wf (OpenSpec.ofChange Rows.topContactsAreTimesSpec)) = true := by kernel_rfl
set_option maxRecDepth 100000 in
theorem closed1 : (laidOutB Tryz.pinned.checked.prog) = true := by kernel_rfl
set_option maxRecDepth 100000 in
theorem closed2 : (mapsRowed Tryz.pinned.checked.prog) = true := by kernel_rfl
set_option maxRecDepth 100000 in
theorem closed3 : (Tryz.f3.params.all (Tryz.pinned.checked.prog.readableRec ·)) = true := by kernel_rfl
set_option maxRecDepth 100000 in
theorem closed4 : (namedTie Tryz.pinned.checked.prog Rows.topContactsAreTimesRow.named Rows.topContactsAreTimesSpec.vars) = true := by kernel_rfl
set_option maxRecDepth 100000 in
theorem closed5 : ((Rows.topContactsAreTimesRow.stops == [])) = true := by kernel_rfl
set_option maxRecDepth 100000 in
theorem closed6 : ((Tryz.pinned.checked.prog.stops == [])) = true := by kernel_rfl
set_option maxRecDepth 100000 in
theorem closed7 : ((Rows.topContactsAreTimesRow.knobs == [])) = true := by kernel_rfl
set_option maxRecDepth 100000 in
theorem closed8 : ((Tryz.pinned.checked.prog.stopKnobs == [])) = true := by kernel_rfl
set_option maxRecDepth 100000 in
theorem closed9 : ((Rows.topContactsAreTimesRow.inPlace == Tryz.pinned.checked.prog.inPlace 3)) = true := by kernel_rfl
set_option maxRecDepth 100000 in
theorem closed10 : ((Rows.topContactsAreTimesRow.unfollowed == Tryz.pinned.checked.prog.unfollowed 3)) = true := by kernel_rfl
set_option maxRecDepth 100000 in
theorem closed11 : ((Rows.topContactsAreTimesRow.recurses == Tryz.pinned.checked.prog.recurses 3)) = true := by kernel_rfl
set_option maxRecDepth 100000 in
theorem closed12 : ((Rows.topContactsAreTimesRow.named == Tryz.pinned.checked.prog.varsNamed 3)) = true := by kernel_rfl
set_option maxRecDepth 100000 in
theorem closed13 : ((Rows.topContactsAreTimesRow.maps == (Tryz.f3.params.toList ++ Rows.topContactsAreTimesSpec.plain.varTypes Tryz.pinned.checked.prog).any (Tryz.pinned.checked.prog.mapsRec ·))) = true := by kernel_rfl
set_option maxRecDepth 100000 in
theorem closed14 : ((Rows.topContactsAreTimesRow.ifaces == (Tryz.f3.params.toList ++ Rows.topContactsAreTimesSpec.plain.varTypes Tryz.pinned.checked.prog).any (Tryz.pinned.checked.prog.ifacesRec ·))) = true := by kernel_rfl
set_option maxRecDepth 100000 in
theorem closed15 : ((Rows.topContactsAreTimesRow.mapsOut == Tryz.pinned.checked.prog.mapsAmong Tryz.f3.resultTypes.toList)) = true := by kernel_rfl
set_option maxRecDepth 100000 in
theorem closed16 : ((Rows.topContactsAreTimesRow.loops == (Tryz.f3.params.toList ++ Rows.topContactsAreTimesSpec.plain.varTypes Tryz.pinned.checked.prog).any (Tryz.pinned.checked.prog.loopsFrom ·))) = true := by kernel_rfl
set_option maxRecDepth 100000 in
theorem closed17 : ((Rows.topContactsAreTimesRow.wideKeys == (Tryz.f3.params.toList ++ Rows.topContactsAreTimesSpec.plain.varTypes Tryz.pinned.checked.prog ++ Tryz.f3.resultTypes.toList).any (Tryz.pinned.checked.prog.wideKeysFrom ·))) = true := by kernel_rfl
set_option maxRecDepth 100000 in
theorem closed18 : (Rows.topContactsAreTimesSpec.vars.all (Tryz.pinned.checked.prog.varReadable ·)) = true := by kernel_rfl
set_option maxRecDepth 100000 in
theorem closed19 : (Tryz.f3.resultTypes.all (fun t => Tryz.pinned.checked.prog.readableRec t && decide (t < Tryz.pinned.checked.prog.types.size))) = true := by kernel_rfl
set_option maxRecDepth 100000 in
theorem closed20 : ((Rows.topContactsAreTimesRow.ifacesOut == Tryz.f3.resultTypes.toList.any (Tryz.pinned.checked.prog.ifacesRec ·))) = true := by kernel_rfl
set_option maxRecDepth 100000 in
theorem closed21 : ((Rows.topContactsAreTimesRow.loopsOut == Tryz.f3.resultTypes.toList.any (Tryz.pinned.checked.prog.loopsFrom ·))) = true := by kernel_rfl
set_option maxRecDepth 100000 in
theorem closed22 : ((Rows.topContactsAreTimesRow.plainKeys == Tryz.pinned.checked.prog.plainKeys)) = true := by kernel_rfl
set_option maxRecDepth 100000 in
theorem closed30 : ((Rows.topContactsAreTimesRow.veiled == (Tryz.f3.params.toList ++ Rows.topContactsAreTimesSpec.plain.varTypes Tryz.pinned.checked.prog ++ Tryz.f3.resultTypes.toList).any (Tryz.pinned.checked.prog.veiledRec ·))) = true := by kernel_rfl
set_option maxRecDepth 100000 in
theorem closed31 : (Rows.topContactsAreTimesRow.veiledFits Tryz.pinned.checked.prog Tryz.f3.params.toList (Tryz.f3.params.toList ++ Rows.topContactsAreTimesSpec.plain.varTypes Tryz.pinned.checked.prog ++ Tryz.f3.resultTypes.toList)) = true := by kernel_rfl
set_option maxRecDepth 100000 in
theorem closedW : Rows.topContactsAreTimesRow.wfByText (OpenSpec.ofChange Rows.topContactsAreTimesSpec) = true := by kernel_rfl
set_option maxRecDepth 100000 in
theorem closedF : Tryz.prog.funcNamed "pileup/piletop.TopContactsAreTimes" = some 3 := by kernel_rfl
set_option maxRecDepth 100000 in
theorem closedL : true = Tryz.pinned.checked.prog.looks [] := by kernel_rfl
set_option maxRecDepth 100000 in
theorem closedG : false = Rows.topContactsAreTimesRow.goesBy Tryz.pinned.checked.prog := by kernel_rfl
set_option maxRecDepth 100000 in
theorem closedI : ([22].all fun u => !Tryz.prog.wantsStandIn u) = true := by kernel_rfl
end Go.Proofs.YthlflljlkkkanaaGreatDoor.topContactsAreTimes
