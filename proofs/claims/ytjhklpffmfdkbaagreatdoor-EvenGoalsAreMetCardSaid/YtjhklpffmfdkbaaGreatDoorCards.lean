/-
  DERIVED. GIVEN WITH THE SEED: THE CARDS: each row of YtjhklpffmfdkbaaGreatDoorRows.lean that lists a variable, with what it lists TIED to the program's text (the seventh form; the later family's looks); each row that meets fmt, with fmt's text TOLD by the authors' own Lean function (tested against real Go, not proved from fmt's source: count such statements apart). THE CARD IS WHAT COUNTS. Prove the row's statement (the work); the ties are given (YtjhklpffmfdkbaaGreatDoorTie.lean); close each card by the builder's one call (the guide's Derived/Test/ToyasCard.lean, 'card_holds'). Laid BY PROGRAM, IN A SANDBOX (cutbox-door.mjs). By AI agents, Wed Nov 11 2026. No macro, syntax, notation, axiom, sorry.
-/
import Derived.Test.YtjhklpffmfdkbaaGreatDoorRows
import GoSem.ClaimSeven
namespace Go.Proofs.YtjhklpffmfdkbaaGreatDoor
namespace Rows

/-- THE TIED CARD OF 'pilekeep1.EvenGoalsAreMet'. -/
def evenGoalsAreMetCard : Claim7 := { stood := { row := evenGoalsAreMetRow, standIns := [], harness := (true, "505cb1104d2847f15b499f9bcbba137e1d8c7ad5e537ab38ad47e11b8b3c6b5b"), looks := false }, kinds := [], alts := [], laidByText := true, laidKinds := [.data, .listed, .data, .pinned], laidTests := true, laidLooks := .later }
def EvenGoalsAreMetCardSaid : Prop := Claim7.holds Tryz.pinned (.plain (OpenSpec.ofChange evenGoalsAreMetSpec)) evenGoalsAreMetCard

/-- THE TIED CARD OF 'pilekeep1.ShiftsAreCounted'. -/
def shiftsAreCountedCard : Claim7 := { stood := { row := shiftsAreCountedRow, standIns := [], harness := (true, "505cb1104d2847f15b499f9bcbba137e1d8c7ad5e537ab38ad47e11b8b3c6b5b"), looks := false }, kinds := [], alts := [], laidByText := true, laidKinds := [.data, .listed, .data, .pinned], laidTests := true, laidLooks := .later }
def ShiftsAreCountedCardSaid : Prop := Claim7.holds Tryz.pinned (.plain (OpenSpec.ofChange shiftsAreCountedSpec)) shiftsAreCountedCard

/-- THE TIED CARD OF 'pilekeep1.RatesStay'. -/
def ratesStayCard : Claim7 := { stood := { row := ratesStayRow, standIns := [], harness := (true, "505cb1104d2847f15b499f9bcbba137e1d8c7ad5e537ab38ad47e11b8b3c6b5b"), looks := false }, kinds := [], alts := [], laidByText := true, laidKinds := [.data, .listed, .data, .pinned], laidTests := true, laidLooks := .later }
def RatesStayCardSaid : Prop := Claim7.holds Tryz.pinned (.plain (OpenSpec.ofChange ratesStaySpec)) ratesStayCard

/-- THE SECOND FORM's CARD OF 'pilekeep1.EvenGoalsAreMet'. -/
def evenGoalsAreMetUptoCard : Claim7 := { stood := { row := evenGoalsAreMetUptoRow, standIns := [], harness := (true, "505cb1104d2847f15b499f9bcbba137e1d8c7ad5e537ab38ad47e11b8b3c6b5b"), looks := false }, kinds := [], alts := [], laidByText := true, laidKinds := [.data, .listed, .data, .pinned], laidTests := true, laidLooks := .later }
def EvenGoalsAreMetUptoCardSaid : Prop := Claim7.holds Tryz.pinned (.plain (OpenSpec.upto evenGoalsAreMetSpec)) evenGoalsAreMetUptoCard

/-- THE SECOND FORM's CARD OF 'pilekeep1.ShiftsAreCounted'. -/
def shiftsAreCountedUptoCard : Claim7 := { stood := { row := shiftsAreCountedUptoRow, standIns := [], harness := (true, "505cb1104d2847f15b499f9bcbba137e1d8c7ad5e537ab38ad47e11b8b3c6b5b"), looks := false }, kinds := [], alts := [], laidByText := true, laidKinds := [.data, .listed, .data, .pinned], laidTests := true, laidLooks := .later }
def ShiftsAreCountedUptoCardSaid : Prop := Claim7.holds Tryz.pinned (.plain (OpenSpec.upto shiftsAreCountedSpec)) shiftsAreCountedUptoCard

/-- THE SECOND FORM's CARD OF 'pilekeep1.RatesStay'. -/
def ratesStayUptoCard : Claim7 := { stood := { row := ratesStayUptoRow, standIns := [], harness := (true, "505cb1104d2847f15b499f9bcbba137e1d8c7ad5e537ab38ad47e11b8b3c6b5b"), looks := false }, kinds := [], alts := [], laidByText := true, laidKinds := [.data, .listed, .data, .pinned], laidTests := true, laidLooks := .later }
def RatesStayUptoCardSaid : Prop := Claim7.holds Tryz.pinned (.plain (OpenSpec.upto ratesStaySpec)) ratesStayUptoCard
end Rows
end Go.Proofs.YtjhklpffmfdkbaaGreatDoor
