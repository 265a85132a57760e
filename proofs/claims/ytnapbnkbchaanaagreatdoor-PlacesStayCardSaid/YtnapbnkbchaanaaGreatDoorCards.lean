/-
  DERIVED. GIVEN WITH THE SEED: THE CARDS: each row of YtnapbnkbchaanaaGreatDoorRows.lean that lists a variable, with what it lists TIED to the program's text (the seventh form; the later family's looks); each row that meets fmt, with fmt's text TOLD by the authors' own Lean function (tested against real Go, not proved from fmt's source: count such statements apart). THE CARD IS WHAT COUNTS. Prove the row's statement (the work); the ties are given (YtnapbnkbchaanaaGreatDoorTie.lean); close each card by the builder's one call (the guide's Derived/Test/ToyasCard.lean, 'card_holds'). Laid BY PROGRAM, IN A SANDBOX (cutbox-door.mjs). By AI agents, Wed Nov 11 2026. No macro, syntax, notation, axiom, sorry.
-/
import Derived.Test.YtnapbnkbchaanaaGreatDoorRows
import GoSem.ClaimSeven
namespace Go.Proofs.YtnapbnkbchaanaaGreatDoor
namespace Rows

/-- THE TIED CARD OF 'pilelaw1.CallsNear'. -/
def callsNearCard : Claim7 := { stood := { row := callsNearRow, standIns := [], harness := (true, "93fccf7ced6a8fbb5f7013fc2483cff832657bf517b97c916e7b002648c4ada8"), looks := false }, kinds := [], alts := [], laidByText := true, laidKinds := [.data, .pinned], laidTests := true, laidLooks := .later }
def CallsNearCardSaid : Prop := Claim7.holds Tryz.pinned (.plain (OpenSpec.ofChange callsNearSpec)) callsNearCard

/-- THE TIED CARD OF 'pilekeep1.KeysStay'. -/
def keysStayCard : Claim7 := { stood := { row := keysStayRow, standIns := [], harness := (true, "93fccf7ced6a8fbb5f7013fc2483cff832657bf517b97c916e7b002648c4ada8"), looks := false }, kinds := [], alts := [], laidByText := true, laidKinds := [.data, .listed, .data, .pinned], laidTests := true, laidLooks := .later }
def KeysStayCardSaid : Prop := Claim7.holds Tryz.pinned (.plain (OpenSpec.ofChange keysStaySpec)) keysStayCard

/-- THE TIED CARD OF 'pilekeep1.StepsAreADistance'. -/
def stepsAreADistanceCard : Claim7 := { stood := { row := stepsAreADistanceRow, standIns := [], harness := (true, "93fccf7ced6a8fbb5f7013fc2483cff832657bf517b97c916e7b002648c4ada8"), looks := false }, kinds := [], alts := [], laidByText := true, laidKinds := [.data, .listed, .data, .pinned], laidTests := true, laidLooks := .later }
def StepsAreADistanceCardSaid : Prop := Claim7.holds Tryz.pinned (.plain (OpenSpec.ofChange stepsAreADistanceSpec)) stepsAreADistanceCard

/-- THE TIED CARD OF 'pilekeep1.PlacesStay'. -/
def placesStayCard : Claim7 := { stood := { row := placesStayRow, standIns := [], harness := (true, "93fccf7ced6a8fbb5f7013fc2483cff832657bf517b97c916e7b002648c4ada8"), looks := false }, kinds := [], alts := [], laidByText := true, laidKinds := [.data, .listed, .data, .pinned], laidTests := true, laidLooks := .later }
def PlacesStayCardSaid : Prop := Claim7.holds Tryz.pinned (.plain (OpenSpec.ofChange placesStaySpec)) placesStayCard

/-- THE TIED CARD OF 'pilekeep1.RatesStay'. -/
def ratesStayCard : Claim7 := { stood := { row := ratesStayRow, standIns := [], harness := (true, "93fccf7ced6a8fbb5f7013fc2483cff832657bf517b97c916e7b002648c4ada8"), looks := false }, kinds := [], alts := [], laidByText := true, laidKinds := [.data, .listed, .data, .pinned], laidTests := true, laidLooks := .later }
def RatesStayCardSaid : Prop := Claim7.holds Tryz.pinned (.plain (OpenSpec.ofChange ratesStaySpec)) ratesStayCard

/-- THE SECOND FORM's CARD OF 'pilelaw1.CallsNear'. -/
def callsNearUptoCard : Claim7 := { stood := { row := callsNearUptoRow, standIns := [], harness := (true, "93fccf7ced6a8fbb5f7013fc2483cff832657bf517b97c916e7b002648c4ada8"), looks := false }, kinds := [], alts := [], laidByText := true, laidKinds := [.data, .pinned], laidTests := true, laidLooks := .later }
def CallsNearUptoCardSaid : Prop := Claim7.holds Tryz.pinned (.plain (OpenSpec.upto callsNearSpec)) callsNearUptoCard

/-- THE SECOND FORM's CARD OF 'pilekeep1.KeysStay'. -/
def keysStayUptoCard : Claim7 := { stood := { row := keysStayUptoRow, standIns := [], harness := (true, "93fccf7ced6a8fbb5f7013fc2483cff832657bf517b97c916e7b002648c4ada8"), looks := false }, kinds := [], alts := [], laidByText := true, laidKinds := [.data, .listed, .data, .pinned], laidTests := true, laidLooks := .later }
def KeysStayUptoCardSaid : Prop := Claim7.holds Tryz.pinned (.plain (OpenSpec.upto keysStaySpec)) keysStayUptoCard

/-- THE SECOND FORM's CARD OF 'pilekeep1.StepsAreADistance'. -/
def stepsAreADistanceUptoCard : Claim7 := { stood := { row := stepsAreADistanceUptoRow, standIns := [], harness := (true, "93fccf7ced6a8fbb5f7013fc2483cff832657bf517b97c916e7b002648c4ada8"), looks := false }, kinds := [], alts := [], laidByText := true, laidKinds := [.data, .listed, .data, .pinned], laidTests := true, laidLooks := .later }
def StepsAreADistanceUptoCardSaid : Prop := Claim7.holds Tryz.pinned (.plain (OpenSpec.upto stepsAreADistanceSpec)) stepsAreADistanceUptoCard

/-- THE SECOND FORM's CARD OF 'pilekeep1.PlacesStay'. -/
def placesStayUptoCard : Claim7 := { stood := { row := placesStayUptoRow, standIns := [], harness := (true, "93fccf7ced6a8fbb5f7013fc2483cff832657bf517b97c916e7b002648c4ada8"), looks := false }, kinds := [], alts := [], laidByText := true, laidKinds := [.data, .listed, .data, .pinned], laidTests := true, laidLooks := .later }
def PlacesStayUptoCardSaid : Prop := Claim7.holds Tryz.pinned (.plain (OpenSpec.upto placesStaySpec)) placesStayUptoCard

/-- THE SECOND FORM's CARD OF 'pilekeep1.RatesStay'. -/
def ratesStayUptoCard : Claim7 := { stood := { row := ratesStayUptoRow, standIns := [], harness := (true, "93fccf7ced6a8fbb5f7013fc2483cff832657bf517b97c916e7b002648c4ada8"), looks := false }, kinds := [], alts := [], laidByText := true, laidKinds := [.data, .listed, .data, .pinned], laidTests := true, laidLooks := .later }
def RatesStayUptoCardSaid : Prop := Claim7.holds Tryz.pinned (.plain (OpenSpec.upto ratesStaySpec)) ratesStayUptoCard
end Rows
end Go.Proofs.YtnapbnkbchaanaaGreatDoor
