/-
  DERIVED. GIVEN WITH THE SEED: THE CARDS: each row of YtcimnlcmpfagnaaDoorRows.lean that lists a variable, with what it lists TIED to the program's text (the seventh form; the later family's looks); each row that meets fmt, with fmt's text TOLD by the authors' own Lean function (tested against real Go, not proved from fmt's source: count such statements apart). THE CARD IS WHAT COUNTS. Prove the row's statement (the work); the ties are given (YtcimnlcmpfagnaaDoorTie.lean); close each card by the builder's one call (the guide's Derived/Test/ToyasCard.lean, 'card_holds'). Laid BY PROGRAM, IN A SANDBOX (cutbox-door.mjs). By AI agents, Wed Nov 11 2026. No macro, syntax, notation, axiom, sorry.
-/
import Derived.Test.YtcimnlcmpfagnaaDoorRows
import GoSem.ClaimSeven
namespace Go.Proofs.YtcimnlcmpfagnaaDoor
namespace Rows

/-- THE TIED CARD OF 'pilelaw1.MarksHeard'. -/
def marksHeardCard : Claim7 := { stood := { row := marksHeardRow, standIns := [], harness := (true, "42334e01a50be0459380ffb68045bc79a53fa2a6cd96a0b203f18a143f5de25a"), looks := false }, kinds := [], alts := [], laidByText := true, laidKinds := [.data, .listed, .data, .pinned], laidTests := true, laidLooks := .later }
def MarksHeardCardSaid : Prop := Claim7.holds Tryd.pinned (.plain (OpenSpec.ofChange marksHeardSpec)) marksHeardCard

/-- THE TIED CARD OF 'pilelaw1.MarksKeyed'. -/
def marksKeyedCard : Claim7 := { stood := { row := marksKeyedRow, standIns := [], harness := (true, "42334e01a50be0459380ffb68045bc79a53fa2a6cd96a0b203f18a143f5de25a"), looks := false }, kinds := [], alts := [], laidByText := true, laidKinds := [.data, .listed, .data, .pinned], laidTests := true, laidLooks := .later }
def MarksKeyedCardSaid : Prop := Claim7.holds Tryd.pinned (.plain (OpenSpec.ofChange marksKeyedSpec)) marksKeyedCard

/-- THE TIED CARD OF 'pilelaw1.SignsCoded'. -/
def signsCodedCard : Claim7 := { stood := { row := signsCodedRow, standIns := [], harness := (true, "42334e01a50be0459380ffb68045bc79a53fa2a6cd96a0b203f18a143f5de25a"), looks := false }, kinds := [], alts := [], laidByText := true, laidKinds := [.data, .listed, .data, .pinned], laidTests := true, laidLooks := .later }
def SignsCodedCardSaid : Prop := Claim7.holds Tryd.pinned (.plain (OpenSpec.ofChange signsCodedSpec)) signsCodedCard

/-- THE TIED CARD OF 'pilekeep1.CheapRestsAreEnough'. -/
def cheapRestsAreEnoughCard : Claim7 := { stood := { row := cheapRestsAreEnoughRow, standIns := [], harness := (true, "42334e01a50be0459380ffb68045bc79a53fa2a6cd96a0b203f18a143f5de25a"), looks := false }, kinds := [], alts := [], laidByText := true, laidKinds := [.data, .listed, .data, .pinned], laidTests := true, laidLooks := .later }
def CheapRestsAreEnoughCardSaid : Prop := Claim7.holds Tryd.pinned (.plain (OpenSpec.ofChange cheapRestsAreEnoughSpec)) cheapRestsAreEnoughCard

/-- THE SECOND FORM's CARD OF 'pilelaw1.MarksHeard'. -/
def marksHeardUptoCard : Claim7 := { stood := { row := marksHeardUptoRow, standIns := [], harness := (true, "42334e01a50be0459380ffb68045bc79a53fa2a6cd96a0b203f18a143f5de25a"), looks := false }, kinds := [], alts := [], laidByText := true, laidKinds := [.data, .listed, .data, .pinned], laidTests := true, laidLooks := .later }
def MarksHeardUptoCardSaid : Prop := Claim7.holds Tryd.pinned (.plain (OpenSpec.upto marksHeardSpec)) marksHeardUptoCard

/-- THE SECOND FORM's CARD OF 'pilelaw1.MarksKeyed'. -/
def marksKeyedUptoCard : Claim7 := { stood := { row := marksKeyedUptoRow, standIns := [], harness := (true, "42334e01a50be0459380ffb68045bc79a53fa2a6cd96a0b203f18a143f5de25a"), looks := false }, kinds := [], alts := [], laidByText := true, laidKinds := [.data, .listed, .data, .pinned], laidTests := true, laidLooks := .later }
def MarksKeyedUptoCardSaid : Prop := Claim7.holds Tryd.pinned (.plain (OpenSpec.upto marksKeyedSpec)) marksKeyedUptoCard

/-- THE SECOND FORM's CARD OF 'pilelaw1.SignsCoded'. -/
def signsCodedUptoCard : Claim7 := { stood := { row := signsCodedUptoRow, standIns := [], harness := (true, "42334e01a50be0459380ffb68045bc79a53fa2a6cd96a0b203f18a143f5de25a"), looks := false }, kinds := [], alts := [], laidByText := true, laidKinds := [.data, .listed, .data, .pinned], laidTests := true, laidLooks := .later }
def SignsCodedUptoCardSaid : Prop := Claim7.holds Tryd.pinned (.plain (OpenSpec.upto signsCodedSpec)) signsCodedUptoCard

/-- THE SECOND FORM's CARD OF 'pilekeep1.CheapRestsAreEnough'. -/
def cheapRestsAreEnoughUptoCard : Claim7 := { stood := { row := cheapRestsAreEnoughUptoRow, standIns := [], harness := (true, "42334e01a50be0459380ffb68045bc79a53fa2a6cd96a0b203f18a143f5de25a"), looks := false }, kinds := [], alts := [], laidByText := true, laidKinds := [.data, .listed, .data, .pinned], laidTests := true, laidLooks := .later }
def CheapRestsAreEnoughUptoCardSaid : Prop := Claim7.holds Tryd.pinned (.plain (OpenSpec.upto cheapRestsAreEnoughSpec)) cheapRestsAreEnoughUptoCard
end Rows
end Go.Proofs.YtcimnlcmpfagnaaDoor
