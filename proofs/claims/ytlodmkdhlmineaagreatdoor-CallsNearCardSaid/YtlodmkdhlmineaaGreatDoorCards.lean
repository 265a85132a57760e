/-
  DERIVED. GIVEN WITH THE SEED: THE CARDS: each row of YtlodmkdhlmineaaGreatDoorRows.lean that lists a variable, with what it lists TIED to the program's text (the seventh form; the later family's looks); each row that meets fmt, with fmt's text TOLD by the authors' own Lean function (tested against real Go, not proved from fmt's source: count such statements apart). THE CARD IS WHAT COUNTS. Prove the row's statement (the work); the ties are given (YtlodmkdhlmineaaGreatDoorTie.lean); close each card by the builder's one call (the guide's Derived/Test/ToyasCard.lean, 'card_holds'). Laid BY PROGRAM, IN A SANDBOX (cutbox-door.mjs). By AI agents, Wed Nov 11 2026. No macro, syntax, notation, axiom, sorry.
-/
import Derived.Test.YtlodmkdhlmineaaGreatDoorRows
import GoSem.ClaimSeven
namespace Go.Proofs.YtlodmkdhlmineaaGreatDoor
namespace Rows

/-- THE TIED CARD OF 'pilelaw1.CallsNear'. -/
def callsNearCard : Claim7 := { stood := { row := callsNearRow, standIns := [], harness := (true, "c4e6ac6b92fd0c1a5f06440cc38a429f6e14f70958f6a99258147659050aa65f"), looks := true }, kinds := [], alts := [], laidByText := true, laidKinds := [.data, .pinned], laidTests := true, laidLooks := .later }
def CallsNearCardSaid : Prop := Claim7.holds Tryz.pinned (.plain (OpenSpec.ofChange callsNearSpec)) callsNearCard

/-- THE TIED CARD OF 'piletop.TopCallsAreKeyed'. -/
def topCallsAreKeyedCard : Claim7 := { stood := { row := topCallsAreKeyedRow, standIns := [], harness := (true, "c4e6ac6b92fd0c1a5f06440cc38a429f6e14f70958f6a99258147659050aa65f"), looks := true }, kinds := [], alts := [], laidByText := true, laidKinds := [.data, .listed, .data, .pinned], laidTests := true, laidLooks := .later }
def TopCallsAreKeyedCardSaid : Prop := Claim7.holds Tryz.pinned (.plain (OpenSpec.ofChange topCallsAreKeyedSpec)) topCallsAreKeyedCard

/-- THE TIED CARD OF 'pilekeep1.StepsAreADistance'. -/
def stepsAreADistanceCard : Claim7 := { stood := { row := stepsAreADistanceRow, standIns := [], harness := (true, "c4e6ac6b92fd0c1a5f06440cc38a429f6e14f70958f6a99258147659050aa65f"), looks := true }, kinds := [], alts := [], laidByText := true, laidKinds := [.data, .listed, .data, .pinned], laidTests := true, laidLooks := .later }
def StepsAreADistanceCardSaid : Prop := Claim7.holds Tryz.pinned (.plain (OpenSpec.ofChange stepsAreADistanceSpec)) stepsAreADistanceCard

/-- THE TIED CARD OF 'pilekeep1.MistakesAreOneApart'. -/
def mistakesAreOneApartCard : Claim7 := { stood := { row := mistakesAreOneApartRow, standIns := [], harness := (true, "c4e6ac6b92fd0c1a5f06440cc38a429f6e14f70958f6a99258147659050aa65f"), looks := true }, kinds := [], alts := [], laidByText := true, laidKinds := [.data, .listed, .data, .pinned], laidTests := true, laidLooks := .later }
def MistakesAreOneApartCardSaid : Prop := Claim7.holds Tryz.pinned (.plain (OpenSpec.ofChange mistakesAreOneApartSpec)) mistakesAreOneApartCard

/-- THE TIED CARD OF 'pilelaw1.NumbersCut'. -/
def numbersCutCard : Claim7 := { stood := { row := numbersCutRow, standIns := [], harness := (true, "c4e6ac6b92fd0c1a5f06440cc38a429f6e14f70958f6a99258147659050aa65f"), looks := true }, kinds := [], alts := [], laidByText := true, laidKinds := [.data, .data, .data, .data, .listed, .data, .pinned], laidTests := true, laidLooks := .later }
def NumbersCutCardSaid : Prop := Claim7.holds Tryz.pinned (.plain (OpenSpec.ofChange numbersCutSpec)) numbersCutCard

/-- THE SECOND FORM's CARD OF 'pilelaw1.CallsNear'. -/
def callsNearUptoCard : Claim7 := { stood := { row := callsNearUptoRow, standIns := [], harness := (true, "c4e6ac6b92fd0c1a5f06440cc38a429f6e14f70958f6a99258147659050aa65f"), looks := true }, kinds := [], alts := [], laidByText := true, laidKinds := [.data, .pinned], laidTests := true, laidLooks := .later }
def CallsNearUptoCardSaid : Prop := Claim7.holds Tryz.pinned (.plain (OpenSpec.upto callsNearSpec)) callsNearUptoCard

/-- THE SECOND FORM's CARD OF 'piletop.TopCallsAreKeyed'. -/
def topCallsAreKeyedUptoCard : Claim7 := { stood := { row := topCallsAreKeyedUptoRow, standIns := [], harness := (true, "c4e6ac6b92fd0c1a5f06440cc38a429f6e14f70958f6a99258147659050aa65f"), looks := true }, kinds := [], alts := [], laidByText := true, laidKinds := [.data, .listed, .data, .pinned], laidTests := true, laidLooks := .later }
def TopCallsAreKeyedUptoCardSaid : Prop := Claim7.holds Tryz.pinned (.plain (OpenSpec.upto topCallsAreKeyedSpec)) topCallsAreKeyedUptoCard

/-- THE SECOND FORM's CARD OF 'pilekeep1.StepsAreADistance'. -/
def stepsAreADistanceUptoCard : Claim7 := { stood := { row := stepsAreADistanceUptoRow, standIns := [], harness := (true, "c4e6ac6b92fd0c1a5f06440cc38a429f6e14f70958f6a99258147659050aa65f"), looks := true }, kinds := [], alts := [], laidByText := true, laidKinds := [.data, .listed, .data, .pinned], laidTests := true, laidLooks := .later }
def StepsAreADistanceUptoCardSaid : Prop := Claim7.holds Tryz.pinned (.plain (OpenSpec.upto stepsAreADistanceSpec)) stepsAreADistanceUptoCard

/-- THE SECOND FORM's CARD OF 'pilekeep1.MistakesAreOneApart'. -/
def mistakesAreOneApartUptoCard : Claim7 := { stood := { row := mistakesAreOneApartUptoRow, standIns := [], harness := (true, "c4e6ac6b92fd0c1a5f06440cc38a429f6e14f70958f6a99258147659050aa65f"), looks := true }, kinds := [], alts := [], laidByText := true, laidKinds := [.data, .listed, .data, .pinned], laidTests := true, laidLooks := .later }
def MistakesAreOneApartUptoCardSaid : Prop := Claim7.holds Tryz.pinned (.plain (OpenSpec.upto mistakesAreOneApartSpec)) mistakesAreOneApartUptoCard

/-- THE SECOND FORM's CARD OF 'pilelaw1.NumbersCut'. -/
def numbersCutUptoCard : Claim7 := { stood := { row := numbersCutUptoRow, standIns := [], harness := (true, "c4e6ac6b92fd0c1a5f06440cc38a429f6e14f70958f6a99258147659050aa65f"), looks := true }, kinds := [], alts := [], laidByText := true, laidKinds := [.data, .data, .data, .data, .listed, .data, .pinned], laidTests := true, laidLooks := .later }
def NumbersCutUptoCardSaid : Prop := Claim7.holds Tryz.pinned (.plain (OpenSpec.upto numbersCutSpec)) numbersCutUptoCard
end Rows
end Go.Proofs.YtlodmkdhlmineaaGreatDoor
