/- The law TopContactsAreTimes answers true for every slice of ints and leaves its argument as it was. Condition: package-level variables of the library hold what its text lays in them (the card ties that to the text). -/
import Derived.Test.YthlflljlkkkanaaGreatDoorTtar
namespace Go.Proofs.YthlflljlkkkanaaGreatDoor.topContactsAreTimes
open Go.ChangeShapes Go.WideShapes Go.ChangeAt Go.RowKit
open Go.ChangeMaps (open_string shut_string)
set_option linter.unusedVariables false


theorem proved : Rows.TopContactsAreTimesCardSaid :=
 Claim7.holds_tied_plain_at .later [] [.data, .listed, .data, .pinned] true (true, "61f368f1508f1a5495e2126672c504a8a6269739ce18634109d3bb168b3bd8b2") true
  over (fun _ h => by cases h) closedW (fun _ h => by cases h) topContactsAreTimes_row_tie rfl ⟨rfl, rfl⟩ (by kernel_rfl) rfl
  (fun f fn hf hfn => by
   obtain rfl : f = 3 := Option.some.inj (closedF.symm.trans hf) |>.symm
   obtain rfl : fn = Tryz.f3 := (Option.some.inj (Tryz.func3.symm.trans hfn)).symm
   exact ⟨closedL, fun j t ht => by
    rw [Tryz.params3] at ht
    have hm : t ∈ [22] := by simpa using Array.mem_of_getElem? ht
    have hall := closedI
    exact (show Tryz.prog.wantsStandIn t = false by simpa using List.all_eq_true.1 hall t hm)⟩)
  closedG
#print axioms proved
end Go.Proofs.YthlflljlkkkanaaGreatDoor.topContactsAreTimes
