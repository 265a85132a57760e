/-
  DERIVED. GIVEN WITH THE SEED: THE CARDS: each row of YtffddmgnjecmdaaDoorRows.lean that lists a variable, with what it lists TIED to the program's text (the seventh form; the later family's looks); each row that meets fmt, with fmt's text TOLD by the authors' own Lean function (tested against real Go, not proved from fmt's source: count such statements apart). THE CARD IS WHAT COUNTS. Prove the row's statement (the work); the ties are given (YtffddmgnjecmdaaDoorTie.lean); close each card by the builder's one call (the guide's Derived/Test/ToyasCard.lean, 'card_holds'). Laid BY PROGRAM, IN A SANDBOX (cutbox-door.mjs). By AI agents, Wed Nov 11 2026. No macro, syntax, notation, axiom, sorry.
-/
import Derived.Test.YtffddmgnjecmdaaDoorRows
import GoSem.ClaimSeven
namespace Go.Proofs.YtffddmgnjecmdaaDoor
namespace Rows

/-- THE TIED CARD OF 'pilelaw1.CallsApart'. -/
def callsApartCard : Claim7 := { stood := { row := callsApartRow, standIns := [], harness := (true, "10542b8de7d639e7469d210adfeed122118f1b47e00da558f3a2a9df0004c38c"), looks := false }, kinds := [], alts := [], laidByText := true, laidKinds := [.data, .pinned], laidTests := true, laidLooks := .later }
def CallsApartCardSaid : Prop := Claim7.holds Tryd.pinned (.plain (OpenSpec.ofChange callsApartSpec)) callsApartCard

/-- THE TIED CARD OF 'pilelaw1.MarksHeard'. -/
def marksHeardCard : Claim7 := { stood := { row := marksHeardRow, standIns := [], harness := (true, "10542b8de7d639e7469d210adfeed122118f1b47e00da558f3a2a9df0004c38c"), looks := false }, kinds := [], alts := [], laidByText := true, laidKinds := [.data, .listed, .data, .pinned], laidTests := true, laidLooks := .later }
def MarksHeardCardSaid : Prop := Claim7.holds Tryd.pinned (.plain (OpenSpec.ofChange marksHeardSpec)) marksHeardCard

/-- THE TIED CARD OF 'pilelaw1.ShiftsTold'. -/
def shiftsToldCard : Claim7 := { stood := { row := shiftsToldRow, standIns := [], harness := (true, "10542b8de7d639e7469d210adfeed122118f1b47e00da558f3a2a9df0004c38c"), looks := false }, kinds := [], alts := [], laidByText := true, laidKinds := [.data, .pinned], laidTests := true, laidLooks := .later }
def ShiftsToldCardSaid : Prop := Claim7.holds Tryd.pinned (.plain (OpenSpec.ofChange shiftsToldSpec)) shiftsToldCard

/-- THE TIED CARD OF 'pilekeep1.PartsAreTheWhole'. -/
def partsAreTheWholeCard : Claim7 := { stood := { row := partsAreTheWholeRow, standIns := [], harness := (true, "10542b8de7d639e7469d210adfeed122118f1b47e00da558f3a2a9df0004c38c"), looks := false }, kinds := [], alts := [], laidByText := true, laidKinds := [.data, .listed, .data, .pinned], laidTests := true, laidLooks := .later }
def PartsAreTheWholeCardSaid : Prop := Claim7.holds Tryd.pinned (.plain (OpenSpec.ofChange partsAreTheWholeSpec)) partsAreTheWholeCard

/-- THE TIED CARD OF 'pilekeep1.CheapRestsAreEnough'. -/
def cheapRestsAreEnoughCard : Claim7 := { stood := { row := cheapRestsAreEnoughRow, standIns := [], harness := (true, "10542b8de7d639e7469d210adfeed122118f1b47e00da558f3a2a9df0004c38c"), looks := false }, kinds := [], alts := [], laidByText := true, laidKinds := [.data, .listed, .data, .pinned], laidTests := true, laidLooks := .later }
def CheapRestsAreEnoughCardSaid : Prop := Claim7.holds Tryd.pinned (.plain (OpenSpec.ofChange cheapRestsAreEnoughSpec)) cheapRestsAreEnoughCard

/-- THE TIED CARD OF 'pilekeep1.HeardIsLeast'. -/
def heardIsLeastCard : Claim7 := { stood := { row := heardIsLeastRow, standIns := [], harness := (true, "10542b8de7d639e7469d210adfeed122118f1b47e00da558f3a2a9df0004c38c"), looks := false }, kinds := [], alts := [], laidByText := true, laidKinds := [.data, .listed, .data, .pinned], laidTests := true, laidLooks := .later }
def HeardIsLeastCardSaid : Prop := Claim7.holds Tryd.pinned (.plain (OpenSpec.ofChange heardIsLeastSpec)) heardIsLeastCard

/-- THE SECOND FORM's CARD OF 'pilelaw1.CallsApart'. -/
def callsApartUptoCard : Claim7 := { stood := { row := callsApartUptoRow, standIns := [], harness := (true, "10542b8de7d639e7469d210adfeed122118f1b47e00da558f3a2a9df0004c38c"), looks := false }, kinds := [], alts := [], laidByText := true, laidKinds := [.data, .pinned], laidTests := true, laidLooks := .later }
def CallsApartUptoCardSaid : Prop := Claim7.holds Tryd.pinned (.plain (OpenSpec.upto callsApartSpec)) callsApartUptoCard

/-- THE SECOND FORM's CARD OF 'pilelaw1.MarksHeard'. -/
def marksHeardUptoCard : Claim7 := { stood := { row := marksHeardUptoRow, standIns := [], harness := (true, "10542b8de7d639e7469d210adfeed122118f1b47e00da558f3a2a9df0004c38c"), looks := false }, kinds := [], alts := [], laidByText := true, laidKinds := [.data, .listed, .data, .pinned], laidTests := true, laidLooks := .later }
def MarksHeardUptoCardSaid : Prop := Claim7.holds Tryd.pinned (.plain (OpenSpec.upto marksHeardSpec)) marksHeardUptoCard

/-- THE SECOND FORM's CARD OF 'pilelaw1.ShiftsTold'. -/
def shiftsToldUptoCard : Claim7 := { stood := { row := shiftsToldUptoRow, standIns := [], harness := (true, "10542b8de7d639e7469d210adfeed122118f1b47e00da558f3a2a9df0004c38c"), looks := false }, kinds := [], alts := [], laidByText := true, laidKinds := [.data, .pinned], laidTests := true, laidLooks := .later }
def ShiftsToldUptoCardSaid : Prop := Claim7.holds Tryd.pinned (.plain (OpenSpec.upto shiftsToldSpec)) shiftsToldUptoCard

/-- THE SECOND FORM's CARD OF 'pilekeep1.PartsAreTheWhole'. -/
def partsAreTheWholeUptoCard : Claim7 := { stood := { row := partsAreTheWholeUptoRow, standIns := [], harness := (true, "10542b8de7d639e7469d210adfeed122118f1b47e00da558f3a2a9df0004c38c"), looks := false }, kinds := [], alts := [], laidByText := true, laidKinds := [.data, .listed, .data, .pinned], laidTests := true, laidLooks := .later }
def PartsAreTheWholeUptoCardSaid : Prop := Claim7.holds Tryd.pinned (.plain (OpenSpec.upto partsAreTheWholeSpec)) partsAreTheWholeUptoCard

/-- THE SECOND FORM's CARD OF 'pilekeep1.CheapRestsAreEnough'. -/
def cheapRestsAreEnoughUptoCard : Claim7 := { stood := { row := cheapRestsAreEnoughUptoRow, standIns := [], harness := (true, "10542b8de7d639e7469d210adfeed122118f1b47e00da558f3a2a9df0004c38c"), looks := false }, kinds := [], alts := [], laidByText := true, laidKinds := [.data, .listed, .data, .pinned], laidTests := true, laidLooks := .later }
def CheapRestsAreEnoughUptoCardSaid : Prop := Claim7.holds Tryd.pinned (.plain (OpenSpec.upto cheapRestsAreEnoughSpec)) cheapRestsAreEnoughUptoCard

/-- THE SECOND FORM's CARD OF 'pilekeep1.HeardIsLeast'. -/
def heardIsLeastUptoCard : Claim7 := { stood := { row := heardIsLeastUptoRow, standIns := [], harness := (true, "10542b8de7d639e7469d210adfeed122118f1b47e00da558f3a2a9df0004c38c"), looks := false }, kinds := [], alts := [], laidByText := true, laidKinds := [.data, .listed, .data, .pinned], laidTests := true, laidLooks := .later }
def HeardIsLeastUptoCardSaid : Prop := Claim7.holds Tryd.pinned (.plain (OpenSpec.upto heardIsLeastSpec)) heardIsLeastUptoCard
end Rows
end Go.Proofs.YtffddmgnjecmdaaDoor
