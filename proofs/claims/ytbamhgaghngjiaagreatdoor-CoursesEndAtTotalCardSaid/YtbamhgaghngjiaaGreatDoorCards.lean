/-
  DERIVED. GIVEN WITH THE SEED: THE CARDS: each row of YtbamhgaghngjiaaGreatDoorRows.lean that lists a variable, with what it lists TIED to the program's text (the seventh form; the later family's looks); each row that meets fmt, with fmt's text TOLD by the authors' own Lean function (tested against real Go, not proved from fmt's source: count such statements apart). THE CARD IS WHAT COUNTS. Prove the row's statement (the work); the ties are given (YtbamhgaghngjiaaGreatDoorTie.lean); close each card by the builder's one call (the guide's Derived/Test/ToyasCard.lean, 'card_holds'). Laid BY PROGRAM, IN A SANDBOX (cutbox-door.mjs). By AI agents, Wed Nov 11 2026. No macro, syntax, notation, axiom, sorry.
-/
import Derived.Test.YtbamhgaghngjiaaGreatDoorRows
import GoSem.ClaimSeven
namespace Go.Proofs.YtbamhgaghngjiaaGreatDoor
namespace Rows

/-- THE TIED CARD OF 'piletop.TopEntitiesMultiply'. -/
def topEntitiesMultiplyCard : Claim7 := { stood := { row := topEntitiesMultiplyRow, standIns := [], harness := (true, "f16e25232b5da174bb6a1c582d4ddea6c60fb424d37ddf4abe8fc19099931657"), looks := false }, kinds := [], alts := [], laidByText := true, laidKinds := [.data, .data, .data, .data, .listed, .data, .pinned], laidTests := true, laidLooks := .later }
def TopEntitiesMultiplyCardSaid : Prop := Claim7.holds Tryz.pinned (.plain (OpenSpec.ofChange topEntitiesMultiplySpec)) topEntitiesMultiplyCard

/-- THE TIED CARD OF 'pilekeep1.CoursesEndAtTotal'. -/
def coursesEndAtTotalCard : Claim7 := { stood := { row := coursesEndAtTotalRow, standIns := [], harness := (true, "f16e25232b5da174bb6a1c582d4ddea6c60fb424d37ddf4abe8fc19099931657"), looks := false }, kinds := [], alts := [], laidByText := true, laidKinds := [.data, .data, .data, .data, .listed, .data, .pinned], laidTests := true, laidLooks := .later }
def CoursesEndAtTotalCardSaid : Prop := Claim7.holds Tryz.pinned (.plain (OpenSpec.ofChange coursesEndAtTotalSpec)) coursesEndAtTotalCard

/-- THE TIED CARD OF 'pilekeep1.ScoresAddUp'. -/
def scoresAddUpCard : Claim7 := { stood := { row := scoresAddUpRow, standIns := [], harness := (true, "f16e25232b5da174bb6a1c582d4ddea6c60fb424d37ddf4abe8fc19099931657"), looks := false }, kinds := [], alts := [], laidByText := true, laidKinds := [.data, .data, .data, .data, .listed, .data, .pinned], laidTests := true, laidLooks := .later }
def ScoresAddUpCardSaid : Prop := Claim7.holds Tryz.pinned (.plain (OpenSpec.ofChange scoresAddUpSpec)) scoresAddUpCard

/-- THE TIED CARD OF 'piletop.TopTidyScoresTheSame'. -/
def topTidyScoresTheSameCard : Claim7 := { stood := { row := topTidyScoresTheSameRow, standIns := [], harness := (true, "f16e25232b5da174bb6a1c582d4ddea6c60fb424d37ddf4abe8fc19099931657"), looks := false }, kinds := [], alts := [], laidByText := true, laidKinds := [.data, .data, .data, .data, .listed, .data, .pinned], laidTests := true, laidLooks := .later }
def TopTidyScoresTheSameCardSaid : Prop := Claim7.holds Tryz.pinned (.plain (OpenSpec.ofChange topTidyScoresTheSameSpec)) topTidyScoresTheSameCard

/-- THE SECOND FORM's CARD OF 'piletop.TopEntitiesMultiply'. -/
def topEntitiesMultiplyUptoCard : Claim7 := { stood := { row := topEntitiesMultiplyUptoRow, standIns := [], harness := (true, "f16e25232b5da174bb6a1c582d4ddea6c60fb424d37ddf4abe8fc19099931657"), looks := false }, kinds := [], alts := [], laidByText := true, laidKinds := [.data, .data, .data, .data, .listed, .data, .pinned], laidTests := true, laidLooks := .later }
def TopEntitiesMultiplyUptoCardSaid : Prop := Claim7.holds Tryz.pinned (.plain (OpenSpec.upto topEntitiesMultiplySpec)) topEntitiesMultiplyUptoCard

/-- THE SECOND FORM's CARD OF 'pilekeep1.CoursesEndAtTotal'. -/
def coursesEndAtTotalUptoCard : Claim7 := { stood := { row := coursesEndAtTotalUptoRow, standIns := [], harness := (true, "f16e25232b5da174bb6a1c582d4ddea6c60fb424d37ddf4abe8fc19099931657"), looks := false }, kinds := [], alts := [], laidByText := true, laidKinds := [.data, .data, .data, .data, .listed, .data, .pinned], laidTests := true, laidLooks := .later }
def CoursesEndAtTotalUptoCardSaid : Prop := Claim7.holds Tryz.pinned (.plain (OpenSpec.upto coursesEndAtTotalSpec)) coursesEndAtTotalUptoCard

/-- THE SECOND FORM's CARD OF 'pilekeep1.ScoresAddUp'. -/
def scoresAddUpUptoCard : Claim7 := { stood := { row := scoresAddUpUptoRow, standIns := [], harness := (true, "f16e25232b5da174bb6a1c582d4ddea6c60fb424d37ddf4abe8fc19099931657"), looks := false }, kinds := [], alts := [], laidByText := true, laidKinds := [.data, .data, .data, .data, .listed, .data, .pinned], laidTests := true, laidLooks := .later }
def ScoresAddUpUptoCardSaid : Prop := Claim7.holds Tryz.pinned (.plain (OpenSpec.upto scoresAddUpSpec)) scoresAddUpUptoCard

/-- THE SECOND FORM's CARD OF 'piletop.TopTidyScoresTheSame'. -/
def topTidyScoresTheSameUptoCard : Claim7 := { stood := { row := topTidyScoresTheSameUptoRow, standIns := [], harness := (true, "f16e25232b5da174bb6a1c582d4ddea6c60fb424d37ddf4abe8fc19099931657"), looks := false }, kinds := [], alts := [], laidByText := true, laidKinds := [.data, .data, .data, .data, .listed, .data, .pinned], laidTests := true, laidLooks := .later }
def TopTidyScoresTheSameUptoCardSaid : Prop := Claim7.holds Tryz.pinned (.plain (OpenSpec.upto topTidyScoresTheSameSpec)) topTidyScoresTheSameUptoCard
end Rows
end Go.Proofs.YtbamhgaghngjiaaGreatDoor
