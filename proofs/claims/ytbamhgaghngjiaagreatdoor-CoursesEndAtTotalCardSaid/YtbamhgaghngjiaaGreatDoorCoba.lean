/- The facts of the program's text that the card of CoursesEndAtTotal asks for, each a theorem of its own. No condition. -/
import Derived.Test.YtbamhgaghngjiaaGreatDoorCoay
import Derived.JoinedOf
namespace Go.Proofs.YtbamhgaghngjiaaGreatDoor.coursesEndAtTotal
open Go Go.RowKit
set_option maxRecDepth 100000 in
theorem js9 : (Rows.coursesEndAtTotalRow.wf (OpenSpec.ofChange Rows.coursesEndAtTotalSpec)) = true := by kernel_rfl
set_option maxRecDepth 100000 in
theorem jta : (laidOutB Tryz.pinned.checked.prog) = true := by kernel_rfl
set_option maxRecDepth 100000 in
theorem jtb : (mapsRowed Tryz.pinned.checked.prog) = true := by kernel_rfl
set_option maxRecDepth 100000 in
theorem jtc : (Tryz.f4.params.all (Tryz.pinned.checked.prog.readableRec ·)) = true := by kernel_rfl
set_option maxRecDepth 100000 in
theorem jtd : (namedTie Tryz.pinned.checked.prog Rows.coursesEndAtTotalRow.named Rows.coursesEndAtTotalSpec.vars) = true := by kernel_rfl
set_option maxRecDepth 100000 in
theorem jte : ((Rows.coursesEndAtTotalRow.stops == [])) = true := by kernel_rfl
set_option maxRecDepth 100000 in
theorem jtf : ((Tryz.pinned.checked.prog.stops == [])) = true := by kernel_rfl
set_option maxRecDepth 100000 in
theorem jtg : ((Rows.coursesEndAtTotalRow.knobs == [])) = true := by kernel_rfl
set_option maxRecDepth 100000 in
theorem jth : ((Tryz.pinned.checked.prog.stopKnobs == [])) = true := by kernel_rfl
set_option maxRecDepth 100000 in
theorem jti : ((Rows.coursesEndAtTotalRow.inPlace == Tryz.pinned.checked.prog.inPlace 4)) = true := by kernel_rfl
set_option maxRecDepth 100000 in
theorem jql : ((Rows.coursesEndAtTotalRow.unfollowed == Tryz.pinned.checked.prog.unfollowed 4)) = true := by kernel_rfl
set_option maxRecDepth 100000 in
theorem jqm : ((Rows.coursesEndAtTotalRow.recurses == Tryz.pinned.checked.prog.recurses 4)) = true := by kernel_rfl
set_option maxRecDepth 100000 in
theorem jqn : ((Rows.coursesEndAtTotalRow.named == Tryz.pinned.checked.prog.varsNamed 4)) = true := by kernel_rfl
set_option maxRecDepth 100000 in
theorem jqo : ((Rows.coursesEndAtTotalRow.maps == (Tryz.f4.params.toList ++ Rows.coursesEndAtTotalSpec.plain.varTypes Tryz.pinned.checked.prog).any (Tryz.pinned.checked.prog.mapsRec ·))) = true := by kernel_rfl
set_option maxRecDepth 100000 in
theorem jqp : ((Rows.coursesEndAtTotalRow.ifaces == (Tryz.f4.params.toList ++ Rows.coursesEndAtTotalSpec.plain.varTypes Tryz.pinned.checked.prog).any (Tryz.pinned.checked.prog.ifacesRec ·))) = true := by kernel_rfl
set_option maxRecDepth 100000 in
theorem jqq : ((Rows.coursesEndAtTotalRow.mapsOut == Tryz.pinned.checked.prog.mapsAmong Tryz.f4.resultTypes.toList)) = true := by kernel_rfl
set_option maxRecDepth 100000 in
theorem jqr : ((Rows.coursesEndAtTotalRow.loops == (Tryz.f4.params.toList ++ Rows.coursesEndAtTotalSpec.plain.varTypes Tryz.pinned.checked.prog).any (Tryz.pinned.checked.prog.loopsFrom ·))) = true := by kernel_rfl
set_option maxRecDepth 100000 in
theorem jqs : ((Rows.coursesEndAtTotalRow.wideKeys == (Tryz.f4.params.toList ++ Rows.coursesEndAtTotalSpec.plain.varTypes Tryz.pinned.checked.prog ++ Tryz.f4.resultTypes.toList).any (Tryz.pinned.checked.prog.wideKeysFrom ·))) = true := by kernel_rfl
set_option maxRecDepth 100000 in
theorem jqt : (Rows.coursesEndAtTotalSpec.vars.all (Tryz.pinned.checked.prog.varReadable ·)) = true := by kernel_rfl
set_option maxRecDepth 100000 in
theorem jqu : (Tryz.f4.resultTypes.all (fun t => Tryz.pinned.checked.prog.readableRec t && decide (t < Tryz.pinned.checked.prog.types.size))) = true := by kernel_rfl
set_option maxRecDepth 100000 in
theorem jqv : ((Rows.coursesEndAtTotalRow.ifacesOut == Tryz.f4.resultTypes.toList.any (Tryz.pinned.checked.prog.ifacesRec ·))) = true := by kernel_rfl
set_option maxRecDepth 100000 in
theorem jqw : ((Rows.coursesEndAtTotalRow.loopsOut == Tryz.f4.resultTypes.toList.any (Tryz.pinned.checked.prog.loopsFrom ·))) = true := by kernel_rfl
set_option maxRecDepth 100000 in
theorem jqx : ((Rows.coursesEndAtTotalRow.plainKeys == Tryz.pinned.checked.prog.plainKeys)) = true := by kernel_rfl
set_option maxRecDepth 100000 in
theorem jqy : ((Rows.coursesEndAtTotalRow.veiled == (Tryz.f4.params.toList ++ Rows.coursesEndAtTotalSpec.plain.varTypes Tryz.pinned.checked.prog ++ Tryz.f4.resultTypes.toList).any (Tryz.pinned.checked.prog.veiledRec ·))) = true := by kernel_rfl
set_option maxRecDepth 100000 in
theorem jqz : (Rows.coursesEndAtTotalRow.veiledFits Tryz.pinned.checked.prog Tryz.f4.params.toList (Tryz.f4.params.toList ++ Rows.coursesEndAtTotalSpec.plain.varTypes Tryz.pinned.checked.prog ++ Tryz.f4.resultTypes.toList)) = true := by kernel_rfl
set_option maxRecDepth 100000 in
theorem jtl : Rows.coursesEndAtTotalRow.wfByText (OpenSpec.ofChange Rows.coursesEndAtTotalSpec) = true := by kernel_rfl
set_option maxRecDepth 100000 in
theorem closedF : Tryz.prog.funcNamed "pileup/pilekeep1.CoursesEndAtTotal" = some 4 := by kernel_rfl
set_option maxRecDepth 100000 in
theorem jnr : false = Tryz.pinned.checked.prog.looks [] := by kernel_rfl
set_option maxRecDepth 100000 in
theorem jtj : false = Rows.coursesEndAtTotalRow.goesBy Tryz.pinned.checked.prog := by kernel_rfl
set_option maxRecDepth 100000 in
theorem jtk : ([22].all fun u => !Tryz.prog.wantsStandIn u) = true := by kernel_rfl
end Go.Proofs.YtbamhgaghngjiaaGreatDoor.coursesEndAtTotal
