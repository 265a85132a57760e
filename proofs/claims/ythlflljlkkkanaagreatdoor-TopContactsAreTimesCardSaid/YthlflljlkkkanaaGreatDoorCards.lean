/-
  DERIVED. GIVEN WITH THE SEED: THE CARDS: each row of YthlflljlkkkanaaGreatDoorRows.lean that lists a variable, with what it lists TIED to the program's text (the seventh form; the later family's looks); each row that meets fmt, with fmt's text TOLD by the authors' own Lean function (tested against real Go, not proved from fmt's source: count such statements apart). THE CARD IS WHAT COUNTS. Prove the row's statement (the work); the ties are given (YthlflljlkkkanaaGreatDoorTie.lean); close each card by the builder's one call (the guide's Derived/Test/ToyasCard.lean, 'card_holds'). Laid BY PROGRAM, IN A SANDBOX (cutbox-door.mjs). By AI agents, Wed Nov 11 2026. No macro, syntax, notation, axiom, sorry.
-/
import Derived.Test.YthlflljlkkkanaaGreatDoorRows
import GoSem.ClaimSeven
namespace Go.Proofs.YthlflljlkkkanaaGreatDoor
namespace Rows

/-- THE TIED CARD OF 'piletop.TopContactsAreTimes'. -/
def topContactsAreTimesCard : Claim7 := { stood := { row := topContactsAreTimesRow, standIns := [], harness := (true, "61f368f1508f1a5495e2126672c504a8a6269739ce18634109d3bb168b3bd8b2"), looks := true }, kinds := [], alts := [], laidByText := true, laidKinds := [.data, .listed, .data, .pinned], laidTests := true, laidLooks := .later }
def TopContactsAreTimesCardSaid : Prop := Claim7.holds Tryz.pinned (.plain (OpenSpec.ofChange topContactsAreTimesSpec)) topContactsAreTimesCard

/-- THE TIED CARD OF 'piletop.TopEntitiesMultiply'. -/
def topEntitiesMultiplyCard : Claim7 := { stood := { row := topEntitiesMultiplyRow, standIns := [], harness := (true, "61f368f1508f1a5495e2126672c504a8a6269739ce18634109d3bb168b3bd8b2"), looks := true }, kinds := [], alts := [], laidByText := true, laidKinds := [.data, .data, .data, .data, .listed, .data, .pinned], laidTests := true, laidLooks := .later }
def TopEntitiesMultiplyCardSaid : Prop := Claim7.holds Tryz.pinned (.plain (OpenSpec.ofChange topEntitiesMultiplySpec)) topEntitiesMultiplyCard

/-- THE TIED CARD OF 'pilelaw1.ContactsCount'. -/
def contactsCountCard : Claim7 := { stood := { row := contactsCountRow, standIns := [], harness := (true, "61f368f1508f1a5495e2126672c504a8a6269739ce18634109d3bb168b3bd8b2"), looks := true }, kinds := [], alts := [], laidByText := true, laidKinds := [.data, .data, .data, .data, .pinned], laidTests := true, laidLooks := .later }
def ContactsCountCardSaid : Prop := Claim7.holds Tryz.pinned (.plain (OpenSpec.ofChange contactsCountSpec)) contactsCountCard

/-- THE TIED CARD OF 'pilekeep1.CoursesEndAtTotal'. -/
def coursesEndAtTotalCard : Claim7 := { stood := { row := coursesEndAtTotalRow, standIns := [], harness := (true, "61f368f1508f1a5495e2126672c504a8a6269739ce18634109d3bb168b3bd8b2"), looks := true }, kinds := [], alts := [], laidByText := true, laidKinds := [.data, .data, .data, .data, .listed, .data, .pinned], laidTests := true, laidLooks := .later }
def CoursesEndAtTotalCardSaid : Prop := Claim7.holds Tryz.pinned (.plain (OpenSpec.ofChange coursesEndAtTotalSpec)) coursesEndAtTotalCard

/-- THE TIED CARD OF 'pilekeep1.OrderIsNothing'. -/
def orderIsNothingCard : Claim7 := { stood := { row := orderIsNothingRow, standIns := [], harness := (true, "61f368f1508f1a5495e2126672c504a8a6269739ce18634109d3bb168b3bd8b2"), looks := true }, kinds := [], alts := [], laidByText := true, laidKinds := [.data, .data, .data, .data, .listed, .data, .pinned], laidTests := true, laidLooks := .later }
def OrderIsNothingCardSaid : Prop := Claim7.holds Tryz.pinned (.plain (OpenSpec.ofChange orderIsNothingSpec)) orderIsNothingCard

/-- THE TIED CARD OF 'pilekeep1.ScoresAddUp'. -/
def scoresAddUpCard : Claim7 := { stood := { row := scoresAddUpRow, standIns := [], harness := (true, "61f368f1508f1a5495e2126672c504a8a6269739ce18634109d3bb168b3bd8b2"), looks := true }, kinds := [], alts := [], laidByText := true, laidKinds := [.data, .data, .data, .data, .listed, .data, .pinned], laidTests := true, laidLooks := .later }
def ScoresAddUpCardSaid : Prop := Claim7.holds Tryz.pinned (.plain (OpenSpec.ofChange scoresAddUpSpec)) scoresAddUpCard

/-- THE TIED CARD OF 'pilelaw1.NumbersCut'. -/
def numbersCutCard : Claim7 := { stood := { row := numbersCutRow, standIns := [], harness := (true, "61f368f1508f1a5495e2126672c504a8a6269739ce18634109d3bb168b3bd8b2"), looks := true }, kinds := [], alts := [], laidByText := true, laidKinds := [.data, .data, .data, .data, .listed, .data, .pinned], laidTests := true, laidLooks := .later }
def NumbersCutCardSaid : Prop := Claim7.holds Tryz.pinned (.plain (OpenSpec.ofChange numbersCutSpec)) numbersCutCard

/-- THE TIED CARD OF 'piletop.TopTidyScoresTheSame'. -/
def topTidyScoresTheSameCard : Claim7 := { stood := { row := topTidyScoresTheSameRow, standIns := [], harness := (true, "61f368f1508f1a5495e2126672c504a8a6269739ce18634109d3bb168b3bd8b2"), looks := true }, kinds := [], alts := [], laidByText := true, laidKinds := [.data, .data, .data, .data, .listed, .data, .pinned], laidTests := true, laidLooks := .later }
def TopTidyScoresTheSameCardSaid : Prop := Claim7.holds Tryz.pinned (.plain (OpenSpec.ofChange topTidyScoresTheSameSpec)) topTidyScoresTheSameCard

/-- THE SECOND FORM's CARD OF 'piletop.TopContactsAreTimes'. -/
def topContactsAreTimesUptoCard : Claim7 := { stood := { row := topContactsAreTimesUptoRow, standIns := [], harness := (true, "61f368f1508f1a5495e2126672c504a8a6269739ce18634109d3bb168b3bd8b2"), looks := true }, kinds := [], alts := [], laidByText := true, laidKinds := [.data, .listed, .data, .pinned], laidTests := true, laidLooks := .later }
def TopContactsAreTimesUptoCardSaid : Prop := Claim7.holds Tryz.pinned (.plain (OpenSpec.upto topContactsAreTimesSpec)) topContactsAreTimesUptoCard

/-- THE SECOND FORM's CARD OF 'piletop.TopEntitiesMultiply'. -/
def topEntitiesMultiplyUptoCard : Claim7 := { stood := { row := topEntitiesMultiplyUptoRow, standIns := [], harness := (true, "61f368f1508f1a5495e2126672c504a8a6269739ce18634109d3bb168b3bd8b2"), looks := true }, kinds := [], alts := [], laidByText := true, laidKinds := [.data, .data, .data, .data, .listed, .data, .pinned], laidTests := true, laidLooks := .later }
def TopEntitiesMultiplyUptoCardSaid : Prop := Claim7.holds Tryz.pinned (.plain (OpenSpec.upto topEntitiesMultiplySpec)) topEntitiesMultiplyUptoCard

/-- THE SECOND FORM's CARD OF 'pilelaw1.ContactsCount'. -/
def contactsCountUptoCard : Claim7 := { stood := { row := contactsCountUptoRow, standIns := [], harness := (true, "61f368f1508f1a5495e2126672c504a8a6269739ce18634109d3bb168b3bd8b2"), looks := true }, kinds := [], alts := [], laidByText := true, laidKinds := [.data, .data, .data, .data, .pinned], laidTests := true, laidLooks := .later }
def ContactsCountUptoCardSaid : Prop := Claim7.holds Tryz.pinned (.plain (OpenSpec.upto contactsCountSpec)) contactsCountUptoCard

/-- THE SECOND FORM's CARD OF 'pilekeep1.CoursesEndAtTotal'. -/
def coursesEndAtTotalUptoCard : Claim7 := { stood := { row := coursesEndAtTotalUptoRow, standIns := [], harness := (true, "61f368f1508f1a5495e2126672c504a8a6269739ce18634109d3bb168b3bd8b2"), looks := true }, kinds := [], alts := [], laidByText := true, laidKinds := [.data, .data, .data, .data, .listed, .data, .pinned], laidTests := true, laidLooks := .later }
def CoursesEndAtTotalUptoCardSaid : Prop := Claim7.holds Tryz.pinned (.plain (OpenSpec.upto coursesEndAtTotalSpec)) coursesEndAtTotalUptoCard

/-- THE SECOND FORM's CARD OF 'pilekeep1.OrderIsNothing'. -/
def orderIsNothingUptoCard : Claim7 := { stood := { row := orderIsNothingUptoRow, standIns := [], harness := (true, "61f368f1508f1a5495e2126672c504a8a6269739ce18634109d3bb168b3bd8b2"), looks := true }, kinds := [], alts := [], laidByText := true, laidKinds := [.data, .data, .data, .data, .listed, .data, .pinned], laidTests := true, laidLooks := .later }
def OrderIsNothingUptoCardSaid : Prop := Claim7.holds Tryz.pinned (.plain (OpenSpec.upto orderIsNothingSpec)) orderIsNothingUptoCard

/-- THE SECOND FORM's CARD OF 'pilekeep1.ScoresAddUp'. -/
def scoresAddUpUptoCard : Claim7 := { stood := { row := scoresAddUpUptoRow, standIns := [], harness := (true, "61f368f1508f1a5495e2126672c504a8a6269739ce18634109d3bb168b3bd8b2"), looks := true }, kinds := [], alts := [], laidByText := true, laidKinds := [.data, .data, .data, .data, .listed, .data, .pinned], laidTests := true, laidLooks := .later }
def ScoresAddUpUptoCardSaid : Prop := Claim7.holds Tryz.pinned (.plain (OpenSpec.upto scoresAddUpSpec)) scoresAddUpUptoCard

/-- THE SECOND FORM's CARD OF 'pilelaw1.NumbersCut'. -/
def numbersCutUptoCard : Claim7 := { stood := { row := numbersCutUptoRow, standIns := [], harness := (true, "61f368f1508f1a5495e2126672c504a8a6269739ce18634109d3bb168b3bd8b2"), looks := true }, kinds := [], alts := [], laidByText := true, laidKinds := [.data, .data, .data, .data, .listed, .data, .pinned], laidTests := true, laidLooks := .later }
def NumbersCutUptoCardSaid : Prop := Claim7.holds Tryz.pinned (.plain (OpenSpec.upto numbersCutSpec)) numbersCutUptoCard

/-- THE SECOND FORM's CARD OF 'piletop.TopTidyScoresTheSame'. -/
def topTidyScoresTheSameUptoCard : Claim7 := { stood := { row := topTidyScoresTheSameUptoRow, standIns := [], harness := (true, "61f368f1508f1a5495e2126672c504a8a6269739ce18634109d3bb168b3bd8b2"), looks := true }, kinds := [], alts := [], laidByText := true, laidKinds := [.data, .data, .data, .data, .listed, .data, .pinned], laidTests := true, laidLooks := .later }
def TopTidyScoresTheSameUptoCardSaid : Prop := Claim7.holds Tryz.pinned (.plain (OpenSpec.upto topTidyScoresTheSameSpec)) topTidyScoresTheSameUptoCard
end Rows
end Go.Proofs.YthlflljlkkkanaaGreatDoor
