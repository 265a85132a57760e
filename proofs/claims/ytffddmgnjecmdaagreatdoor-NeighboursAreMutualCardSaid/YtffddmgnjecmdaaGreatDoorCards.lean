/-
  DERIVED. GIVEN WITH THE SEED: THE CARDS: each row of YtffddmgnjecmdaaGreatDoorRows.lean that lists a variable, with what it lists TIED to the program's text (the seventh form; the later family's looks); each row that meets fmt, with fmt's text TOLD by the authors' own Lean function (tested against real Go, not proved from fmt's source: count such statements apart). THE CARD IS WHAT COUNTS. Prove the row's statement (the work); the ties are given (YtffddmgnjecmdaaGreatDoorTie.lean); close each card by the builder's one call (the guide's Derived/Test/ToyasCard.lean, 'card_holds'). Laid BY PROGRAM, IN A SANDBOX (cutbox-door.mjs). By AI agents, Wed Nov 11 2026. No macro, syntax, notation, axiom, sorry.
-/
import Derived.Test.YtffddmgnjecmdaaGreatDoorRows
import GoSem.ClaimSeven
namespace Go.Proofs.YtffddmgnjecmdaaGreatDoor
namespace Rows

/-- THE TIED CARD OF 'pilekeep1.NeighboursAreMutual'. -/
def neighboursAreMutualCard : Claim7 := { stood := { row := neighboursAreMutualRow, standIns := [], harness := (true, "13580462f3775cb2f288fd0a9cce0f7084971b7ae29e973109d5dd16d9dedd6b"), looks := false }, kinds := [], alts := [], laidByText := true, laidKinds := [.data, .listed, .data, .pinned], laidTests := true, laidLooks := .later }
def NeighboursAreMutualCardSaid : Prop := Claim7.holds Tryz.pinned (.plain (OpenSpec.ofChange neighboursAreMutualSpec)) neighboursAreMutualCard

/-- THE TIED CARD OF 'pilekeep1.PlacesStay'. -/
def placesStayCard : Claim7 := { stood := { row := placesStayRow, standIns := [], harness := (true, "13580462f3775cb2f288fd0a9cce0f7084971b7ae29e973109d5dd16d9dedd6b"), looks := false }, kinds := [], alts := [], laidByText := true, laidKinds := [.data, .listed, .data, .pinned], laidTests := true, laidLooks := .later }
def PlacesStayCardSaid : Prop := Claim7.holds Tryz.pinned (.plain (OpenSpec.ofChange placesStaySpec)) placesStayCard

/-- THE TIED CARD OF 'pilekeep1.ShiftsAreCounted'. -/
def shiftsAreCountedCard : Claim7 := { stood := { row := shiftsAreCountedRow, standIns := [], harness := (true, "13580462f3775cb2f288fd0a9cce0f7084971b7ae29e973109d5dd16d9dedd6b"), looks := false }, kinds := [], alts := [], laidByText := true, laidKinds := [.data, .listed, .data, .pinned], laidTests := true, laidLooks := .later }
def ShiftsAreCountedCardSaid : Prop := Claim7.holds Tryz.pinned (.plain (OpenSpec.ofChange shiftsAreCountedSpec)) shiftsAreCountedCard

/-- THE SECOND FORM's CARD OF 'pilekeep1.NeighboursAreMutual'. -/
def neighboursAreMutualUptoCard : Claim7 := { stood := { row := neighboursAreMutualUptoRow, standIns := [], harness := (true, "13580462f3775cb2f288fd0a9cce0f7084971b7ae29e973109d5dd16d9dedd6b"), looks := false }, kinds := [], alts := [], laidByText := true, laidKinds := [.data, .listed, .data, .pinned], laidTests := true, laidLooks := .later }
def NeighboursAreMutualUptoCardSaid : Prop := Claim7.holds Tryz.pinned (.plain (OpenSpec.upto neighboursAreMutualSpec)) neighboursAreMutualUptoCard

/-- THE SECOND FORM's CARD OF 'pilekeep1.PlacesStay'. -/
def placesStayUptoCard : Claim7 := { stood := { row := placesStayUptoRow, standIns := [], harness := (true, "13580462f3775cb2f288fd0a9cce0f7084971b7ae29e973109d5dd16d9dedd6b"), looks := false }, kinds := [], alts := [], laidByText := true, laidKinds := [.data, .listed, .data, .pinned], laidTests := true, laidLooks := .later }
def PlacesStayUptoCardSaid : Prop := Claim7.holds Tryz.pinned (.plain (OpenSpec.upto placesStaySpec)) placesStayUptoCard

/-- THE SECOND FORM's CARD OF 'pilekeep1.ShiftsAreCounted'. -/
def shiftsAreCountedUptoCard : Claim7 := { stood := { row := shiftsAreCountedUptoRow, standIns := [], harness := (true, "13580462f3775cb2f288fd0a9cce0f7084971b7ae29e973109d5dd16d9dedd6b"), looks := false }, kinds := [], alts := [], laidByText := true, laidKinds := [.data, .listed, .data, .pinned], laidTests := true, laidLooks := .later }
def ShiftsAreCountedUptoCardSaid : Prop := Claim7.holds Tryz.pinned (.plain (OpenSpec.upto shiftsAreCountedSpec)) shiftsAreCountedUptoCard
end Rows
end Go.Proofs.YtffddmgnjecmdaaGreatDoor
