/-
  DERIVED. GIVEN WITH THE SEED: THE CARDS: each row of YtkidifpbmfknaaaDoorRows.lean that lists a variable, with what it lists TIED to the program's text (the seventh form; the later family's looks); each row that meets fmt, with fmt's text TOLD by the authors' own Lean function (tested against real Go, not proved from fmt's source: count such statements apart). THE CARD IS WHAT COUNTS. Prove the row's statement (the work); the ties are given (YtkidifpbmfknaaaDoorTie.lean); close each card by the builder's one call (the guide's Derived/Test/ToyasCard.lean, 'card_holds'). Laid BY PROGRAM, IN A SANDBOX (cutbox-door.mjs). By AI agents, Wed Nov 11 2026. No macro, syntax, notation, axiom, sorry.
-/
import Derived.Test.YtkidifpbmfknaaaDoorRows
import GoSem.ClaimSeven
namespace Go.Proofs.YtkidifpbmfknaaaDoor
namespace Rows

/-- THE TIED CARD OF 'pilelaw1.ShiftsTold'. -/
def shiftsToldCard : Claim7 := { stood := { row := shiftsToldRow, standIns := [], harness := (true, "d48497ec51df7f98c37e021df36b842418da7198dab88c3ac0cacf99a1dbba31"), looks := false }, kinds := [], alts := [], laidByText := true, laidKinds := [.data, .pinned], laidTests := true, laidLooks := .later }
def ShiftsToldCardSaid : Prop := Claim7.holds Tryd.pinned (.plain (OpenSpec.ofChange shiftsToldSpec)) shiftsToldCard

/-- THE TIED CARD OF 'pilekeep1.CleanHasNothingShort'. -/
def cleanHasNothingShortCard : Claim7 := { stood := { row := cleanHasNothingShortRow, standIns := [], harness := (true, "d48497ec51df7f98c37e021df36b842418da7198dab88c3ac0cacf99a1dbba31"), looks := false }, kinds := [], alts := [], laidByText := true, laidKinds := [.data, .listed, .data, .pinned], laidTests := true, laidLooks := .later }
def CleanHasNothingShortCardSaid : Prop := Claim7.holds Tryd.pinned (.plain (OpenSpec.ofChange cleanHasNothingShortSpec)) cleanHasNothingShortCard

/-- THE TIED CARD OF 'pilekeep1.PartsAreTheWhole'. -/
def partsAreTheWholeCard : Claim7 := { stood := { row := partsAreTheWholeRow, standIns := [], harness := (true, "d48497ec51df7f98c37e021df36b842418da7198dab88c3ac0cacf99a1dbba31"), looks := false }, kinds := [], alts := [], laidByText := true, laidKinds := [.data, .listed, .data, .pinned], laidTests := true, laidLooks := .later }
def PartsAreTheWholeCardSaid : Prop := Claim7.holds Tryd.pinned (.plain (OpenSpec.ofChange partsAreTheWholeSpec)) partsAreTheWholeCard

/-- THE TIED CARD OF 'pilekeep1.HeardIsLeast'. -/
def heardIsLeastCard : Claim7 := { stood := { row := heardIsLeastRow, standIns := [], harness := (true, "d48497ec51df7f98c37e021df36b842418da7198dab88c3ac0cacf99a1dbba31"), looks := false }, kinds := [], alts := [], laidByText := true, laidKinds := [.data, .listed, .data, .pinned], laidTests := true, laidLooks := .later }
def HeardIsLeastCardSaid : Prop := Claim7.holds Tryd.pinned (.plain (OpenSpec.ofChange heardIsLeastSpec)) heardIsLeastCard

/-- THE TIED CARD OF 'pilekeep1.NumbersComeBack'. -/
def numbersComeBackCard : Claim7 := { stood := { row := numbersComeBackRow, standIns := [], harness := (true, "d48497ec51df7f98c37e021df36b842418da7198dab88c3ac0cacf99a1dbba31"), looks := false }, kinds := [], alts := [], laidByText := true, laidKinds := [.data, .data, .data, .data, .listed, .data, .pinned], laidTests := true, laidLooks := .later }
def NumbersComeBackCardSaid : Prop := Claim7.holds Tryd.pinned (.plain (OpenSpec.ofChange numbersComeBackSpec)) numbersComeBackCard

/-- THE SECOND FORM's CARD OF 'pilelaw1.ShiftsTold'. -/
def shiftsToldUptoCard : Claim7 := { stood := { row := shiftsToldUptoRow, standIns := [], harness := (true, "d48497ec51df7f98c37e021df36b842418da7198dab88c3ac0cacf99a1dbba31"), looks := false }, kinds := [], alts := [], laidByText := true, laidKinds := [.data, .pinned], laidTests := true, laidLooks := .later }
def ShiftsToldUptoCardSaid : Prop := Claim7.holds Tryd.pinned (.plain (OpenSpec.upto shiftsToldSpec)) shiftsToldUptoCard

/-- THE SECOND FORM's CARD OF 'pilekeep1.CleanHasNothingShort'. -/
def cleanHasNothingShortUptoCard : Claim7 := { stood := { row := cleanHasNothingShortUptoRow, standIns := [], harness := (true, "d48497ec51df7f98c37e021df36b842418da7198dab88c3ac0cacf99a1dbba31"), looks := false }, kinds := [], alts := [], laidByText := true, laidKinds := [.data, .listed, .data, .pinned], laidTests := true, laidLooks := .later }
def CleanHasNothingShortUptoCardSaid : Prop := Claim7.holds Tryd.pinned (.plain (OpenSpec.upto cleanHasNothingShortSpec)) cleanHasNothingShortUptoCard

/-- THE SECOND FORM's CARD OF 'pilekeep1.PartsAreTheWhole'. -/
def partsAreTheWholeUptoCard : Claim7 := { stood := { row := partsAreTheWholeUptoRow, standIns := [], harness := (true, "d48497ec51df7f98c37e021df36b842418da7198dab88c3ac0cacf99a1dbba31"), looks := false }, kinds := [], alts := [], laidByText := true, laidKinds := [.data, .listed, .data, .pinned], laidTests := true, laidLooks := .later }
def PartsAreTheWholeUptoCardSaid : Prop := Claim7.holds Tryd.pinned (.plain (OpenSpec.upto partsAreTheWholeSpec)) partsAreTheWholeUptoCard

/-- THE SECOND FORM's CARD OF 'pilekeep1.HeardIsLeast'. -/
def heardIsLeastUptoCard : Claim7 := { stood := { row := heardIsLeastUptoRow, standIns := [], harness := (true, "d48497ec51df7f98c37e021df36b842418da7198dab88c3ac0cacf99a1dbba31"), looks := false }, kinds := [], alts := [], laidByText := true, laidKinds := [.data, .listed, .data, .pinned], laidTests := true, laidLooks := .later }
def HeardIsLeastUptoCardSaid : Prop := Claim7.holds Tryd.pinned (.plain (OpenSpec.upto heardIsLeastSpec)) heardIsLeastUptoCard

/-- THE SECOND FORM's CARD OF 'pilekeep1.NumbersComeBack'. -/
def numbersComeBackUptoCard : Claim7 := { stood := { row := numbersComeBackUptoRow, standIns := [], harness := (true, "d48497ec51df7f98c37e021df36b842418da7198dab88c3ac0cacf99a1dbba31"), looks := false }, kinds := [], alts := [], laidByText := true, laidKinds := [.data, .data, .data, .data, .listed, .data, .pinned], laidTests := true, laidLooks := .later }
def NumbersComeBackUptoCardSaid : Prop := Claim7.holds Tryd.pinned (.plain (OpenSpec.upto numbersComeBackSpec)) numbersComeBackUptoCard
end Rows
end Go.Proofs.YtkidifpbmfknaaaDoor
