/- The facts of the program's text that the card of TopTidyScoresTheSame asks for, each a theorem of its own. No condition. -/
import Derived.Test.YtbamhgaghngjiaaGreatDoorSxaw
import Derived.JoinedOf
namespace Go.Proofs.YtbamhgaghngjiaaGreatDoor.topTidyScoresTheSame
open Go Go.RowKit
set_option maxRecDepth 100000 in
theorem jmg : (Rows.topTidyScoresTheSameRow.wf (OpenSpec.ofChange Rows.topTidyScoresTheSameSpec)) = true := by kernel_rfl
set_option maxRecDepth 100000 in
theorem jnp : (laidOutB Tryz.pinned.checked.prog) = true := by kernel_rfl
set_option maxRecDepth 100000 in
theorem jmd : (mapsRowed Tryz.pinned.checked.prog) = true := by kernel_rfl
set_option maxRecDepth 100000 in
theorem jl4 : (Tryz.f6.params.all (Tryz.pinned.checked.prog.readableRec ·)) = true := by kernel_rfl
set_option maxRecDepth 100000 in
theorem jnw : (namedTie Tryz.pinned.checked.prog Rows.topTidyScoresTheSameRow.named Rows.topTidyScoresTheSameSpec.vars) = true := by kernel_rfl
set_option maxRecDepth 100000 in
theorem jme : ((Rows.topTidyScoresTheSameRow.stops == [])) = true := by kernel_rfl
set_option maxRecDepth 100000 in
theorem jny : ((Tryz.pinned.checked.prog.stops == [])) = true := by kernel_rfl
set_option maxRecDepth 100000 in
theorem jnh : ((Rows.topTidyScoresTheSameRow.knobs == [])) = true := by kernel_rfl
set_option maxRecDepth 100000 in
theorem jm4 : ((Tryz.pinned.checked.prog.stopKnobs == [])) = true := by kernel_rfl
set_option maxRecDepth 100000 in
theorem jnt : ((Rows.topTidyScoresTheSameRow.inPlace == Tryz.pinned.checked.prog.inPlace 6)) = true := by kernel_rfl
set_option maxRecDepth 100000 in
theorem jhx : ((Rows.topTidyScoresTheSameRow.unfollowed == Tryz.pinned.checked.prog.unfollowed 6)) = true := by kernel_rfl
set_option maxRecDepth 100000 in
theorem jjb : ((Rows.topTidyScoresTheSameRow.recurses == Tryz.pinned.checked.prog.recurses 6)) = true := by kernel_rfl
set_option maxRecDepth 100000 in
theorem ji7 : ((Rows.topTidyScoresTheSameRow.named == Tryz.pinned.checked.prog.varsNamed 6)) = true := by kernel_rfl
set_option maxRecDepth 100000 in
theorem jh1 : ((Rows.topTidyScoresTheSameRow.maps == (Tryz.f6.params.toList ++ Rows.topTidyScoresTheSameSpec.plain.varTypes Tryz.pinned.checked.prog).any (Tryz.pinned.checked.prog.mapsRec ·))) = true := by kernel_rfl
set_option maxRecDepth 100000 in
theorem ji2 : ((Rows.topTidyScoresTheSameRow.ifaces == (Tryz.f6.params.toList ++ Rows.topTidyScoresTheSameSpec.plain.varTypes Tryz.pinned.checked.prog).any (Tryz.pinned.checked.prog.ifacesRec ·))) = true := by kernel_rfl
set_option maxRecDepth 100000 in
theorem jil : ((Rows.topTidyScoresTheSameRow.mapsOut == Tryz.pinned.checked.prog.mapsAmong Tryz.f6.resultTypes.toList)) = true := by kernel_rfl
set_option maxRecDepth 100000 in
theorem jjm : ((Rows.topTidyScoresTheSameRow.loops == (Tryz.f6.params.toList ++ Rows.topTidyScoresTheSameSpec.plain.varTypes Tryz.pinned.checked.prog).any (Tryz.pinned.checked.prog.loopsFrom ·))) = true := by kernel_rfl
set_option maxRecDepth 100000 in
theorem jip : ((Rows.topTidyScoresTheSameRow.wideKeys == (Tryz.f6.params.toList ++ Rows.topTidyScoresTheSameSpec.plain.varTypes Tryz.pinned.checked.prog ++ Tryz.f6.resultTypes.toList).any (Tryz.pinned.checked.prog.wideKeysFrom ·))) = true := by kernel_rfl
set_option maxRecDepth 100000 in
theorem ji4 : (Rows.topTidyScoresTheSameSpec.vars.all (Tryz.pinned.checked.prog.varReadable ·)) = true := by kernel_rfl
set_option maxRecDepth 100000 in
theorem jh6 : (Tryz.f6.resultTypes.all (fun t => Tryz.pinned.checked.prog.readableRec t && decide (t < Tryz.pinned.checked.prog.types.size))) = true := by kernel_rfl
set_option maxRecDepth 100000 in
theorem jig : ((Rows.topTidyScoresTheSameRow.ifacesOut == Tryz.f6.resultTypes.toList.any (Tryz.pinned.checked.prog.ifacesRec ·))) = true := by kernel_rfl
set_option maxRecDepth 100000 in
theorem jjn : ((Rows.topTidyScoresTheSameRow.loopsOut == Tryz.f6.resultTypes.toList.any (Tryz.pinned.checked.prog.loopsFrom ·))) = true := by kernel_rfl
set_option maxRecDepth 100000 in
theorem jic : ((Rows.topTidyScoresTheSameRow.plainKeys == Tryz.pinned.checked.prog.plainKeys)) = true := by kernel_rfl
set_option maxRecDepth 100000 in
theorem jhw : ((Rows.topTidyScoresTheSameRow.veiled == (Tryz.f6.params.toList ++ Rows.topTidyScoresTheSameSpec.plain.varTypes Tryz.pinned.checked.prog ++ Tryz.f6.resultTypes.toList).any (Tryz.pinned.checked.prog.veiledRec ·))) = true := by kernel_rfl
set_option maxRecDepth 100000 in
theorem jjo : (Rows.topTidyScoresTheSameRow.veiledFits Tryz.pinned.checked.prog Tryz.f6.params.toList (Tryz.f6.params.toList ++ Rows.topTidyScoresTheSameSpec.plain.varTypes Tryz.pinned.checked.prog ++ Tryz.f6.resultTypes.toList)) = true := by kernel_rfl
set_option maxRecDepth 100000 in
theorem jnd : Rows.topTidyScoresTheSameRow.wfByText (OpenSpec.ofChange Rows.topTidyScoresTheSameSpec) = true := by kernel_rfl
set_option maxRecDepth 100000 in
theorem closedF : Tryz.prog.funcNamed "pileup/piletop.TopTidyScoresTheSame" = some 6 := by kernel_rfl
set_option maxRecDepth 100000 in
theorem jiq : false = Tryz.pinned.checked.prog.looks [] := by kernel_rfl
set_option maxRecDepth 100000 in
theorem jm6 : false = Rows.topTidyScoresTheSameRow.goesBy Tryz.pinned.checked.prog := by kernel_rfl
set_option maxRecDepth 100000 in
theorem jmb : ([22].all fun u => !Tryz.prog.wantsStandIn u) = true := by kernel_rfl
end Go.Proofs.YtbamhgaghngjiaaGreatDoor.topTidyScoresTheSame
