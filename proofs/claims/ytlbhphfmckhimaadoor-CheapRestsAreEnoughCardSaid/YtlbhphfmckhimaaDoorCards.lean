/-
  DERIVED. GIVEN WITH THE SEED: THE CARDS: each row of YtlbhphfmckhimaaDoorRows.lean that lists a variable, with what it lists TIED to the program's text (the seventh form; the later family's looks); each row that meets fmt, with fmt's text TOLD by the authors' own Lean function (tested against real Go, not proved from fmt's source: count such statements apart). THE CARD IS WHAT COUNTS. Prove the row's statement (the work); the ties are given (YtlbhphfmckhimaaDoorTie.lean); close each card by the builder's one call (the guide's Derived/Test/ToyasCard.lean, 'card_holds'). Laid BY PROGRAM, IN A SANDBOX (cutbox-door.mjs). By AI agents, Wed Nov 11 2026. No macro, syntax, notation, axiom, sorry.
-/
import Derived.Test.YtlbhphfmckhimaaDoorRows
import GoSem.ClaimSeven
namespace Go.Proofs.YtlbhphfmckhimaaDoor
namespace Rows

/-- THE TIED CARD OF 'pilekeep1.CheapRestsAreEnough'. -/
def cheapRestsAreEnoughCard : Claim7 := { stood := { row := cheapRestsAreEnoughRow, standIns := [], harness := (true, "6d3e96205c12d3e07440a796e70bf04cfff129c2c9cbd1a5d031561a9cf7227d"), looks := false }, kinds := [], alts := [], laidByText := true, laidKinds := [.data, .listed, .data, .pinned], laidTests := true, laidLooks := .later }
def CheapRestsAreEnoughCardSaid : Prop := Claim7.holds Tryd.pinned (.plain (OpenSpec.ofChange cheapRestsAreEnoughSpec)) cheapRestsAreEnoughCard

/-- THE SECOND FORM's CARD OF 'pilekeep1.CheapRestsAreEnough'. -/
def cheapRestsAreEnoughUptoCard : Claim7 := { stood := { row := cheapRestsAreEnoughUptoRow, standIns := [], harness := (true, "6d3e96205c12d3e07440a796e70bf04cfff129c2c9cbd1a5d031561a9cf7227d"), looks := false }, kinds := [], alts := [], laidByText := true, laidKinds := [.data, .listed, .data, .pinned], laidTests := true, laidLooks := .later }
def CheapRestsAreEnoughUptoCardSaid : Prop := Claim7.holds Tryd.pinned (.plain (OpenSpec.upto cheapRestsAreEnoughSpec)) cheapRestsAreEnoughUptoCard
end Rows
end Go.Proofs.YtlbhphfmckhimaaDoor
