/-
  DERIVED. GIVEN WITH THE SEED: THE CARDS: each row of YtjhklpffmfdkbaaDoorRows.lean that lists a variable, with what it lists TIED to the program's text (the seventh form; the later family's looks); each row that meets fmt, with fmt's text TOLD by the authors' own Lean function (tested against real Go, not proved from fmt's source: count such statements apart). THE CARD IS WHAT COUNTS. Prove the row's statement (the work); the ties are given (YtjhklpffmfdkbaaDoorTie.lean); close each card by the builder's one call (the guide's Derived/Test/ToyasCard.lean, 'card_holds'). Laid BY PROGRAM, IN A SANDBOX (cutbox-door.mjs). By AI agents, Wed Nov 11 2026. No macro, syntax, notation, axiom, sorry.
-/
import Derived.Test.YtjhklpffmfdkbaaDoorRows
import GoSem.ClaimSeven
namespace Go.Proofs.YtjhklpffmfdkbaaDoor
namespace Rows

/-- THE TIED CARD OF 'pilelaw1.ShiftsTold'. -/
def shiftsToldCard : Claim7 := { stood := { row := shiftsToldRow, standIns := [], harness := (true, "e2cc43a136c24e9c917cefac2befaf56d648bcb2513918faf2a1c9e5aec25042"), looks := false }, kinds := [], alts := [], laidByText := true, laidKinds := [.data, .pinned], laidTests := true, laidLooks := .later }
def ShiftsToldCardSaid : Prop := Claim7.holds Tryd.pinned (.plain (OpenSpec.ofChange shiftsToldSpec)) shiftsToldCard

/-- THE TIED CARD OF 'pilekeep1.HoursAddUp'. -/
def hoursAddUpCard : Claim7 := { stood := { row := hoursAddUpRow, standIns := [], harness := (true, "e2cc43a136c24e9c917cefac2befaf56d648bcb2513918faf2a1c9e5aec25042"), looks := false }, kinds := [], alts := [], laidByText := true, laidKinds := [.data, .listed, .data, .pinned], laidTests := true, laidLooks := .later }
def HoursAddUpCardSaid : Prop := Claim7.holds Tryd.pinned (.plain (OpenSpec.ofChange hoursAddUpSpec)) hoursAddUpCard

/-- THE TIED CARD OF 'pilekeep1.RestsAndWorkAddUp'. -/
def restsAndWorkAddUpCard : Claim7 := { stood := { row := restsAndWorkAddUpRow, standIns := [], harness := (true, "e2cc43a136c24e9c917cefac2befaf56d648bcb2513918faf2a1c9e5aec25042"), looks := false }, kinds := [], alts := [], laidByText := true, laidKinds := [.data, .listed, .data, .pinned], laidTests := true, laidLooks := .later }
def RestsAndWorkAddUpCardSaid : Prop := Claim7.holds Tryd.pinned (.plain (OpenSpec.ofChange restsAndWorkAddUpSpec)) restsAndWorkAddUpCard

/-- THE TIED CARD OF 'pilekeep1.CheapRestsAreEnough'. -/
def cheapRestsAreEnoughCard : Claim7 := { stood := { row := cheapRestsAreEnoughRow, standIns := [], harness := (true, "e2cc43a136c24e9c917cefac2befaf56d648bcb2513918faf2a1c9e5aec25042"), looks := false }, kinds := [], alts := [], laidByText := true, laidKinds := [.data, .listed, .data, .pinned], laidTests := true, laidLooks := .later }
def CheapRestsAreEnoughCardSaid : Prop := Claim7.holds Tryd.pinned (.plain (OpenSpec.ofChange cheapRestsAreEnoughSpec)) cheapRestsAreEnoughCard

/-- THE SECOND FORM's CARD OF 'pilelaw1.ShiftsTold'. -/
def shiftsToldUptoCard : Claim7 := { stood := { row := shiftsToldUptoRow, standIns := [], harness := (true, "e2cc43a136c24e9c917cefac2befaf56d648bcb2513918faf2a1c9e5aec25042"), looks := false }, kinds := [], alts := [], laidByText := true, laidKinds := [.data, .pinned], laidTests := true, laidLooks := .later }
def ShiftsToldUptoCardSaid : Prop := Claim7.holds Tryd.pinned (.plain (OpenSpec.upto shiftsToldSpec)) shiftsToldUptoCard

/-- THE SECOND FORM's CARD OF 'pilekeep1.HoursAddUp'. -/
def hoursAddUpUptoCard : Claim7 := { stood := { row := hoursAddUpUptoRow, standIns := [], harness := (true, "e2cc43a136c24e9c917cefac2befaf56d648bcb2513918faf2a1c9e5aec25042"), looks := false }, kinds := [], alts := [], laidByText := true, laidKinds := [.data, .listed, .data, .pinned], laidTests := true, laidLooks := .later }
def HoursAddUpUptoCardSaid : Prop := Claim7.holds Tryd.pinned (.plain (OpenSpec.upto hoursAddUpSpec)) hoursAddUpUptoCard

/-- THE SECOND FORM's CARD OF 'pilekeep1.RestsAndWorkAddUp'. -/
def restsAndWorkAddUpUptoCard : Claim7 := { stood := { row := restsAndWorkAddUpUptoRow, standIns := [], harness := (true, "e2cc43a136c24e9c917cefac2befaf56d648bcb2513918faf2a1c9e5aec25042"), looks := false }, kinds := [], alts := [], laidByText := true, laidKinds := [.data, .listed, .data, .pinned], laidTests := true, laidLooks := .later }
def RestsAndWorkAddUpUptoCardSaid : Prop := Claim7.holds Tryd.pinned (.plain (OpenSpec.upto restsAndWorkAddUpSpec)) restsAndWorkAddUpUptoCard

/-- THE SECOND FORM's CARD OF 'pilekeep1.CheapRestsAreEnough'. -/
def cheapRestsAreEnoughUptoCard : Claim7 := { stood := { row := cheapRestsAreEnoughUptoRow, standIns := [], harness := (true, "e2cc43a136c24e9c917cefac2befaf56d648bcb2513918faf2a1c9e5aec25042"), looks := false }, kinds := [], alts := [], laidByText := true, laidKinds := [.data, .listed, .data, .pinned], laidTests := true, laidLooks := .later }
def CheapRestsAreEnoughUptoCardSaid : Prop := Claim7.holds Tryd.pinned (.plain (OpenSpec.upto cheapRestsAreEnoughSpec)) cheapRestsAreEnoughUptoCard
end Rows
end Go.Proofs.YtjhklpffmfdkbaaDoor
