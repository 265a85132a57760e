/-
  DERIVED. GIVEN WITH THE SEED: THE CARDS: each row of YtbpkfkbbkgdlaaaGreatDoorRows.lean that lists a variable, with what it lists TIED to the program's text (the seventh form; the later family's looks); each row that meets fmt, with fmt's text TOLD by the authors' own Lean function (tested against real Go, not proved from fmt's source: count such statements apart). THE CARD IS WHAT COUNTS. Prove the row's statement (the work); the ties are given (YtbpkfkbbkgdlaaaGreatDoorTie.lean); close each card by the builder's one call (the guide's Derived/Test/ToyasCard.lean, 'card_holds'). Laid BY PROGRAM, IN A SANDBOX (cutbox-door.mjs). By AI agents, Wed Nov 11 2026. No macro, syntax, notation, axiom, sorry.
-/
import Derived.Test.YtbpkfkbbkgdlaaaGreatDoorRows
import GoSem.ClaimSeven
namespace Go.Proofs.YtbpkfkbbkgdlaaaGreatDoor
namespace Rows

/-- THE TIED CARD OF 'pilelaw1.TablesChecked'. -/
def tablesCheckedCard : Claim7 := { stood := { row := tablesCheckedRow, standIns := [], harness := (true, "35243245691c64b9e93f93eacec0e50f625e7a801e117e04819be6cbd86b8e1a"), looks := true }, kinds := [], alts := [], laidByText := true, laidKinds := [.data, .data, .data, .data, .pinned], laidTests := true, laidLooks := .later }
def TablesCheckedCardSaid : Prop := Claim7.holds Tryz.pinned (.plain (OpenSpec.ofChange tablesCheckedSpec)) tablesCheckedCard

/-- THE TIED CARD OF 'pilekeep1.TidyKeepsAll'. -/
def tidyKeepsAllCard : Claim7 := { stood := { row := tidyKeepsAllRow, standIns := [], harness := (true, "35243245691c64b9e93f93eacec0e50f625e7a801e117e04819be6cbd86b8e1a"), looks := true }, kinds := [], alts := [], laidByText := true, laidKinds := [.data, .listed, .data, .pinned], laidTests := true, laidLooks := .later }
def TidyKeepsAllCardSaid : Prop := Claim7.holds Tryz.pinned (.plain (OpenSpec.ofChange tidyKeepsAllSpec)) tidyKeepsAllCard

/-- THE TIED CARD OF 'pilekeep1.TablesStay'. -/
def tablesStayCard : Claim7 := { stood := { row := tablesStayRow, standIns := [], harness := (true, "35243245691c64b9e93f93eacec0e50f625e7a801e117e04819be6cbd86b8e1a"), looks := true }, kinds := [], alts := [], laidByText := true, laidKinds := [.data, .listed, .data, .pinned], laidTests := true, laidLooks := .later }
def TablesStayCardSaid : Prop := Claim7.holds Tryz.pinned (.plain (OpenSpec.ofChange tablesStaySpec)) tablesStayCard

/-- THE TIED CARD OF 'pilekeep1.ChangesAreTold'. -/
def changesAreToldCard : Claim7 := { stood := { row := changesAreToldRow, standIns := [], harness := (true, "35243245691c64b9e93f93eacec0e50f625e7a801e117e04819be6cbd86b8e1a"), looks := true }, kinds := [], alts := [], laidByText := true, laidKinds := [.data, .data, .data, .data, .sentinel, .sentinel, .listed, .data, .pinned], laidTests := true, laidLooks := .later }
def ChangesAreToldCardSaid : Prop := Claim7.holds Tryz.pinned (.plain (OpenSpec.ofChange changesAreToldSpec)) changesAreToldCard

/-- THE SECOND FORM's CARD OF 'pilelaw1.TablesChecked'. -/
def tablesCheckedUptoCard : Claim7 := { stood := { row := tablesCheckedUptoRow, standIns := [], harness := (true, "35243245691c64b9e93f93eacec0e50f625e7a801e117e04819be6cbd86b8e1a"), looks := true }, kinds := [], alts := [], laidByText := true, laidKinds := [.data, .data, .data, .data, .pinned], laidTests := true, laidLooks := .later }
def TablesCheckedUptoCardSaid : Prop := Claim7.holds Tryz.pinned (.plain (OpenSpec.upto tablesCheckedSpec)) tablesCheckedUptoCard

/-- THE SECOND FORM's CARD OF 'pilekeep1.TidyKeepsAll'. -/
def tidyKeepsAllUptoCard : Claim7 := { stood := { row := tidyKeepsAllUptoRow, standIns := [], harness := (true, "35243245691c64b9e93f93eacec0e50f625e7a801e117e04819be6cbd86b8e1a"), looks := true }, kinds := [], alts := [], laidByText := true, laidKinds := [.data, .listed, .data, .pinned], laidTests := true, laidLooks := .later }
def TidyKeepsAllUptoCardSaid : Prop := Claim7.holds Tryz.pinned (.plain (OpenSpec.upto tidyKeepsAllSpec)) tidyKeepsAllUptoCard

/-- THE SECOND FORM's CARD OF 'pilekeep1.TablesStay'. -/
def tablesStayUptoCard : Claim7 := { stood := { row := tablesStayUptoRow, standIns := [], harness := (true, "35243245691c64b9e93f93eacec0e50f625e7a801e117e04819be6cbd86b8e1a"), looks := true }, kinds := [], alts := [], laidByText := true, laidKinds := [.data, .listed, .data, .pinned], laidTests := true, laidLooks := .later }
def TablesStayUptoCardSaid : Prop := Claim7.holds Tryz.pinned (.plain (OpenSpec.upto tablesStaySpec)) tablesStayUptoCard

/-- THE SECOND FORM's CARD OF 'pilekeep1.ChangesAreTold'. -/
def changesAreToldUptoCard : Claim7 := { stood := { row := changesAreToldUptoRow, standIns := [], harness := (true, "35243245691c64b9e93f93eacec0e50f625e7a801e117e04819be6cbd86b8e1a"), looks := true }, kinds := [], alts := [], laidByText := true, laidKinds := [.data, .data, .data, .data, .sentinel, .sentinel, .listed, .data, .pinned], laidTests := true, laidLooks := .later }
def ChangesAreToldUptoCardSaid : Prop := Claim7.holds Tryz.pinned (.plain (OpenSpec.upto changesAreToldSpec)) changesAreToldUptoCard
end Rows
end Go.Proofs.YtbpkfkbbkgdlaaaGreatDoor
