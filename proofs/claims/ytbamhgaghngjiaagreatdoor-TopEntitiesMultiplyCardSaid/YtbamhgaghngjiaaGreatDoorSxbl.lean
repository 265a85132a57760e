/- The facts of the program's text that the card of TopEntitiesMultiply asks for, each a theorem of its own. No condition. -/
import Derived.Test.YtbamhgaghngjiaaGreatDoorSxaw
import Derived.JoinedOf
namespace Go.Proofs.YtbamhgaghngjiaaGreatDoor.topEntitiesMultiply
open Go Go.RowKit
set_option maxRecDepth 100000 in
theorem jmg : (Rows.topEntitiesMultiplyRow.wf (OpenSpec.ofChange Rows.topEntitiesMultiplySpec)) = true := by kernel_rfl
set_option maxRecDepth 100000 in
theorem jnp : (laidOutB Tryz.pinned.checked.prog) = true := by kernel_rfl
set_option maxRecDepth 100000 in
theorem jmd : (mapsRowed Tryz.pinned.checked.prog) = true := by kernel_rfl
set_option maxRecDepth 100000 in
theorem jl4 : (Tryz.f3.params.all (Tryz.pinned.checked.prog.readableRec ·)) = true := by kernel_rfl
set_option maxRecDepth 100000 in
theorem jnw : (namedTie Tryz.pinned.checked.prog Rows.topEntitiesMultiplyRow.named Rows.topEntitiesMultiplySpec.vars) = true := by kernel_rfl
set_option maxRecDepth 100000 in
theorem jme : ((Rows.topEntitiesMultiplyRow.stops == [])) = true := by kernel_rfl
set_option maxRecDepth 100000 in
theorem jny : ((Tryz.pinned.checked.prog.stops == [])) = true := by kernel_rfl
set_option maxRecDepth 100000 in
theorem jnh : ((Rows.topEntitiesMultiplyRow.knobs == [])) = true := by kernel_rfl
set_option maxRecDepth 100000 in
theorem jm4 : ((Tryz.pinned.checked.prog.stopKnobs == [])) = true := by kernel_rfl
set_option maxRecDepth 100000 in
theorem jnt : ((Rows.topEntitiesMultiplyRow.inPlace == Tryz.pinned.checked.prog.inPlace 3)) = true := by kernel_rfl
set_option maxRecDepth 100000 in
theorem jhx : ((Rows.topEntitiesMultiplyRow.unfollowed == Tryz.pinned.checked.prog.unfollowed 3)) = true := by kernel_rfl
set_option maxRecDepth 100000 in
theorem jjb : ((Rows.topEntitiesMultiplyRow.recurses == Tryz.pinned.checked.prog.recurses 3)) = true := by kernel_rfl
set_option maxRecDepth 100000 in
theorem ji7 : ((Rows.topEntitiesMultiplyRow.named == Tryz.pinned.checked.prog.varsNamed 3)) = true := by kernel_rfl
set_option maxRecDepth 100000 in
theorem jh1 : ((Rows.topEntitiesMultiplyRow.maps == (Tryz.f3.params.toList ++ Rows.topEntitiesMultiplySpec.plain.varTypes Tryz.pinned.checked.prog).any (Tryz.pinned.checked.prog.mapsRec ·))) = true := by kernel_rfl
set_option maxRecDepth 100000 in
theorem ji2 : ((Rows.topEntitiesMultiplyRow.ifaces == (Tryz.f3.params.toList ++ Rows.topEntitiesMultiplySpec.plain.varTypes Tryz.pinned.checked.prog).any (Tryz.pinned.checked.prog.ifacesRec ·))) = true := by kernel_rfl
set_option maxRecDepth 100000 in
theorem jil : ((Rows.topEntitiesMultiplyRow.mapsOut == Tryz.pinned.checked.prog.mapsAmong Tryz.f3.resultTypes.toList)) = true := by kernel_rfl
set_option maxRecDepth 100000 in
theorem jjm : ((Rows.topEntitiesMultiplyRow.loops == (Tryz.f3.params.toList ++ Rows.topEntitiesMultiplySpec.plain.varTypes Tryz.pinned.checked.prog).any (Tryz.pinned.checked.prog.loopsFrom ·))) = true := by kernel_rfl
set_option maxRecDepth 100000 in
theorem jip : ((Rows.topEntitiesMultiplyRow.wideKeys == (Tryz.f3.params.toList ++ Rows.topEntitiesMultiplySpec.plain.varTypes Tryz.pinned.checked.prog ++ Tryz.f3.resultTypes.toList).any (Tryz.pinned.checked.prog.wideKeysFrom ·))) = true := by kernel_rfl
set_option maxRecDepth 100000 in
theorem ji4 : (Rows.topEntitiesMultiplySpec.vars.all (Tryz.pinned.checked.prog.varReadable ·)) = true := by kernel_rfl
set_option maxRecDepth 100000 in
theorem jh6 : (Tryz.f3.resultTypes.all (fun t => Tryz.pinned.checked.prog.readableRec t && decide (t < Tryz.pinned.checked.prog.types.size))) = true := by kernel_rfl
set_option maxRecDepth 100000 in
theorem jig : ((Rows.topEntitiesMultiplyRow.ifacesOut == Tryz.f3.resultTypes.toList.any (Tryz.pinned.checked.prog.ifacesRec ·))) = true := by kernel_rfl
set_option maxRecDepth 100000 in
theorem jjn : ((Rows.topEntitiesMultiplyRow.loopsOut == Tryz.f3.resultTypes.toList.any (Tryz.pinned.checked.prog.loopsFrom ·))) = true := by kernel_rfl
set_option maxRecDepth 100000 in
theorem jic : ((Rows.topEntitiesMultiplyRow.plainKeys == Tryz.pinned.checked.prog.plainKeys)) = true := by kernel_rfl
set_option maxRecDepth 100000 in
theorem jhw : ((Rows.topEntitiesMultiplyRow.veiled == (Tryz.f3.params.toList ++ Rows.topEntitiesMultiplySpec.plain.varTypes Tryz.pinned.checked.prog ++ Tryz.f3.resultTypes.toList).any (Tryz.pinned.checked.prog.veiledRec ·))) = true := by kernel_rfl
set_option maxRecDepth 100000 in
theorem jjo : (Rows.topEntitiesMultiplyRow.veiledFits Tryz.pinned.checked.prog Tryz.f3.params.toList (Tryz.f3.params.toList ++ Rows.topEntitiesMultiplySpec.plain.varTypes Tryz.pinned.checked.prog ++ Tryz.f3.resultTypes.toList)) = true := by kernel_rfl
set_option maxRecDepth 100000 in
theorem jnd : Rows.topEntitiesMultiplyRow.wfByText (OpenSpec.ofChange Rows.topEntitiesMultiplySpec) = true := by kernel_rfl
set_option maxRecDepth 100000 in
theorem closedF : Tryz.prog.funcNamed "pileup/piletop.TopEntitiesMultiply" = some 3 := by kernel_rfl
set_option maxRecDepth 100000 in
theorem jiq : false = Tryz.pinned.checked.prog.looks [] := by kernel_rfl
set_option maxRecDepth 100000 in
theorem jm6 : false = Rows.topEntitiesMultiplyRow.goesBy Tryz.pinned.checked.prog := by kernel_rfl
set_option maxRecDepth 100000 in
theorem jmb : ([22].all fun u => !Tryz.prog.wantsStandIn u) = true := by kernel_rfl
end Go.Proofs.YtbamhgaghngjiaaGreatDoor.topEntitiesMultiply
