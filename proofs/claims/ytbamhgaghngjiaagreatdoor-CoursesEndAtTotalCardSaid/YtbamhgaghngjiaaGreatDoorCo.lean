/- The law CoursesEndAtTotal answers true for every slice of ints and leaves its argument as it was. Condition: package-level variables of the library hold what its text lays in them (the card ties that to the text). -/
import Derived.Test.YtbamhgaghngjiaaGreatDoorCobc
namespace Go.Proofs.YtbamhgaghngjiaaGreatDoor.coursesEndAtTotal
open Go.ChangeShapes Go.WideShapes Go.ChangeAt Go.RowKit
open Go.ChangeMaps (open_string shut_string)
set_option linter.unusedVariables false


theorem proved : Rows.CoursesEndAtTotalCardSaid :=
 Claim7.holds_tied_plain_at .later [] [.data, .data, .data, .data, .listed, .data, .pinned] true (true, "f16e25232b5da174bb6a1c582d4ddea6c60fb424d37ddf4abe8fc19099931657") false
  jo1 (fun _ h => by cases h) jtl (fun _ h => by cases h) coursesEndAtTotal_row_tie rfl ⟨rfl, rfl⟩ (by kernel_rfl) rfl
  (fun f fn hf hfn => by
   obtain rfl : f = 4 := Option.some.inj (closedF.symm.trans hf) |>.symm
   obtain rfl : fn = Tryz.f4 := (Option.some.inj (Tryz.func4.symm.trans hfn)).symm
   exact ⟨jnr, fun j t ht => by
    rw [Tryz.params4] at ht
    have hm : t ∈ [22] := by simpa using Array.mem_of_getElem? ht
    have hall := jtk
    exact (show Tryz.prog.wantsStandIn t = false by simpa using List.all_eq_true.1 hall t hm)⟩)
  jtj
#print axioms proved
end Go.Proofs.YtbamhgaghngjiaaGreatDoor.coursesEndAtTotal
