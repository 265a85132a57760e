/-
  DERIVED. GIVEN WITH THE SEED: THE CARDS: each row of YtmhddmngencaeaaDoorRows.lean that lists a variable, with what it lists TIED to the program's text (the seventh form; the later family's looks); each row that meets fmt, with fmt's text TOLD by the authors' own Lean function (tested against real Go, not proved from fmt's source: count such statements apart). THE CARD IS WHAT COUNTS. Prove the row's statement (the work); the ties are given (YtmhddmngencaeaaDoorTie.lean); close each card by the builder's one call (the guide's Derived/Test/ToyasCard.lean, 'card_holds'). Laid BY PROGRAM, IN A SANDBOX (cutbox-door.mjs). By AI agents, Wed Nov 11 2026. No macro, syntax, notation, axiom, sorry.
-/
import Derived.Test.YtmhddmngencaeaaDoorRows
import GoSem.ClaimSeven
namespace Go.Proofs.YtmhddmngencaeaaDoor
namespace Rows

/-- THE TIED CARD OF 'pilelaw1.MarksHeard'. -/
def marksHeardCard : Claim7 := { stood := { row := marksHeardRow, standIns := [], harness := (true, "ac3ff42797ce8a752bbcf99050a9f9a766d6829d2459e9961c6fc8223fb50a7f"), looks := false }, kinds := [], alts := [], laidByText := true, laidKinds := [.data, .listed, .data, .pinned], laidTests := true, laidLooks := .later }
def MarksHeardCardSaid : Prop := Claim7.holds Tryd.pinned (.plain (OpenSpec.ofChange marksHeardSpec)) marksHeardCard

/-- THE TIED CARD OF 'pilelaw1.MarksKeyed'. -/
def marksKeyedCard : Claim7 := { stood := { row := marksKeyedRow, standIns := [], harness := (true, "ac3ff42797ce8a752bbcf99050a9f9a766d6829d2459e9961c6fc8223fb50a7f"), looks := false }, kinds := [], alts := [], laidByText := true, laidKinds := [.data, .listed, .data, .pinned], laidTests := true, laidLooks := .later }
def MarksKeyedCardSaid : Prop := Claim7.holds Tryd.pinned (.plain (OpenSpec.ofChange marksKeyedSpec)) marksKeyedCard

/-- THE TIED CARD OF 'pilelaw1.SignsCoded'. -/
def signsCodedCard : Claim7 := { stood := { row := signsCodedRow, standIns := [], harness := (true, "ac3ff42797ce8a752bbcf99050a9f9a766d6829d2459e9961c6fc8223fb50a7f"), looks := false }, kinds := [], alts := [], laidByText := true, laidKinds := [.data, .listed, .data, .pinned], laidTests := true, laidLooks := .later }
def SignsCodedCardSaid : Prop := Claim7.holds Tryd.pinned (.plain (OpenSpec.ofChange signsCodedSpec)) signsCodedCard

/-- THE TIED CARD OF 'pilekeep1.HeardIsLeast'. -/
def heardIsLeastCard : Claim7 := { stood := { row := heardIsLeastRow, standIns := [], harness := (true, "ac3ff42797ce8a752bbcf99050a9f9a766d6829d2459e9961c6fc8223fb50a7f"), looks := false }, kinds := [], alts := [], laidByText := true, laidKinds := [.data, .listed, .data, .pinned], laidTests := true, laidLooks := .later }
def HeardIsLeastCardSaid : Prop := Claim7.holds Tryd.pinned (.plain (OpenSpec.ofChange heardIsLeastSpec)) heardIsLeastCard

/-- THE SECOND FORM's CARD OF 'pilelaw1.MarksHeard'. -/
def marksHeardUptoCard : Claim7 := { stood := { row := marksHeardUptoRow, standIns := [], harness := (true, "ac3ff42797ce8a752bbcf99050a9f9a766d6829d2459e9961c6fc8223fb50a7f"), looks := false }, kinds := [], alts := [], laidByText := true, laidKinds := [.data, .listed, .data, .pinned], laidTests := true, laidLooks := .later }
def MarksHeardUptoCardSaid : Prop := Claim7.holds Tryd.pinned (.plain (OpenSpec.upto marksHeardSpec)) marksHeardUptoCard

/-- THE SECOND FORM's CARD OF 'pilelaw1.MarksKeyed'. -/
def marksKeyedUptoCard : Claim7 := { stood := { row := marksKeyedUptoRow, standIns := [], harness := (true, "ac3ff42797ce8a752bbcf99050a9f9a766d6829d2459e9961c6fc8223fb50a7f"), looks := false }, kinds := [], alts := [], laidByText := true, laidKinds := [.data, .listed, .data, .pinned], laidTests := true, laidLooks := .later }
def MarksKeyedUptoCardSaid : Prop := Claim7.holds Tryd.pinned (.plain (OpenSpec.upto marksKeyedSpec)) marksKeyedUptoCard

/-- THE SECOND FORM's CARD OF 'pilelaw1.SignsCoded'. -/
def signsCodedUptoCard : Claim7 := { stood := { row := signsCodedUptoRow, standIns := [], harness := (true, "ac3ff42797ce8a752bbcf99050a9f9a766d6829d2459e9961c6fc8223fb50a7f"), looks := false }, kinds := [], alts := [], laidByText := true, laidKinds := [.data, .listed, .data, .pinned], laidTests := true, laidLooks := .later }
def SignsCodedUptoCardSaid : Prop := Claim7.holds Tryd.pinned (.plain (OpenSpec.upto signsCodedSpec)) signsCodedUptoCard

/-- THE SECOND FORM's CARD OF 'pilekeep1.HeardIsLeast'. -/
def heardIsLeastUptoCard : Claim7 := { stood := { row := heardIsLeastUptoRow, standIns := [], harness := (true, "ac3ff42797ce8a752bbcf99050a9f9a766d6829d2459e9961c6fc8223fb50a7f"), looks := false }, kinds := [], alts := [], laidByText := true, laidKinds := [.data, .listed, .data, .pinned], laidTests := true, laidLooks := .later }
def HeardIsLeastUptoCardSaid : Prop := Claim7.holds Tryd.pinned (.plain (OpenSpec.upto heardIsLeastSpec)) heardIsLeastUptoCard
end Rows
end Go.Proofs.YtmhddmngencaeaaDoor
