/-
  DERIVED. GIVEN WITH THE SEED: THE CARDS: each row of YthgbkalgmicniaaGreatDoorRows.lean that lists a variable, with what it lists TIED to the program's text (the seventh form; the later family's looks); each row that meets fmt, with fmt's text TOLD by the authors' own Lean function (tested against real Go, not proved from fmt's source: count such statements apart). THE CARD IS WHAT COUNTS. Prove the row's statement (the work); the ties are given (YthgbkalgmicniaaGreatDoorTie.lean); close each card by the builder's one call (the guide's Derived/Test/ToyasCard.lean, 'card_holds'). Laid BY PROGRAM, IN A SANDBOX (cutbox-door.mjs). By AI agents, Wed Nov 11 2026. No macro, syntax, notation, axiom, sorry.
-/
import Derived.Test.YthgbkalgmicniaaGreatDoorRows
import GoSem.ClaimSeven
namespace Go.Proofs.YthgbkalgmicniaaGreatDoor
namespace Rows

/-- THE TIED CARD OF 'ostlerlaw15.LowerTells'. -/
def lowerTellsCard : Claim7 := { stood := { row := lowerTellsRow, standIns := [], harness := (true, "f28c247041849a22a7730ddb919b11a70afbeddf73c0b805e8dad32c3cc1e096"), looks := true }, kinds := [], alts := [], laidByText := true, laidKinds := [.data, .data, .data, .data, .pinned], laidTests := true, laidLooks := .later }
def LowerTellsCardSaid : Prop := Claim7.holds Tryz.pinned (.plain (OpenSpec.ofChange lowerTellsSpec)) lowerTellsCard

/-- THE TIED CARD OF 'ostlerlaw15.LowerParts'. -/
def lowerPartsCard : Claim7 := { stood := { row := lowerPartsRow, standIns := [], harness := (true, "f28c247041849a22a7730ddb919b11a70afbeddf73c0b805e8dad32c3cc1e096"), looks := true }, kinds := [], alts := [], laidByText := true, laidKinds := [.data, .data, .data, .data, .pinned], laidTests := true, laidLooks := .later }
def LowerPartsCardSaid : Prop := Claim7.holds Tryz.pinned (.plain (OpenSpec.ofChange lowerPartsSpec)) lowerPartsCard

/-- THE TIED CARD OF 'ostlerlaw15.LowerSmall'. -/
def lowerSmallCard : Claim7 := { stood := { row := lowerSmallRow, standIns := [], harness := (true, "f28c247041849a22a7730ddb919b11a70afbeddf73c0b805e8dad32c3cc1e096"), looks := true }, kinds := [], alts := [], laidByText := true, laidKinds := [.data, .data, .data, .data, .pinned], laidTests := true, laidLooks := .later }
def LowerSmallCardSaid : Prop := Claim7.holds Tryz.pinned (.plain (OpenSpec.ofChange lowerSmallSpec)) lowerSmallCard

/-- THE TIED CARD OF 'ostlerlaw15.LowerAlone'. -/
def lowerAloneCard : Claim7 := { stood := { row := lowerAloneRow, standIns := [], harness := (true, "f28c247041849a22a7730ddb919b11a70afbeddf73c0b805e8dad32c3cc1e096"), looks := true }, kinds := [], alts := [], laidByText := true, laidKinds := [.data, .data, .data, .data, .pinned], laidTests := true, laidLooks := .later }
def LowerAloneCardSaid : Prop := Claim7.holds Tryz.pinned (.plain (OpenSpec.ofChange lowerAloneSpec)) lowerAloneCard

/-- THE TIED CARD OF 'ostlerlaw15.LowerShape'. -/
def lowerShapeCard : Claim7 := { stood := { row := lowerShapeRow, standIns := [], harness := (true, "f28c247041849a22a7730ddb919b11a70afbeddf73c0b805e8dad32c3cc1e096"), looks := true }, kinds := [], alts := [], laidByText := true, laidKinds := [.data, .data, .data, .data, .pinned], laidTests := true, laidLooks := .later }
def LowerShapeCardSaid : Prop := Claim7.holds Tryz.pinned (.plain (OpenSpec.ofChange lowerShapeSpec)) lowerShapeCard

/-- THE TIED CARD OF 'ostlerlaw15.LowerShows'. -/
def lowerShowsCard : Claim7 := { stood := { row := lowerShowsRow, standIns := [], harness := (true, "f28c247041849a22a7730ddb919b11a70afbeddf73c0b805e8dad32c3cc1e096"), looks := true }, kinds := [], alts := [], laidByText := true, laidKinds := [.data, .data, .data, .data, .pinned], laidTests := true, laidLooks := .later }
def LowerShowsCardSaid : Prop := Claim7.holds Tryz.pinned (.plain (OpenSpec.ofChange lowerShowsSpec)) lowerShowsCard

/-- THE TIED CARD OF 'ostlerlaw15.LowerMeans'. -/
def lowerMeansCard : Claim7 := { stood := { row := lowerMeansRow, standIns := [], harness := (true, "f28c247041849a22a7730ddb919b11a70afbeddf73c0b805e8dad32c3cc1e096"), looks := true }, kinds := [], alts := [], laidByText := true, laidKinds := [.data, .data, .data, .data, .pinned], laidTests := true, laidLooks := .later }
def LowerMeansCardSaid : Prop := Claim7.holds Tryz.pinned (.plain (OpenSpec.ofChange lowerMeansSpec)) lowerMeansCard

/-- THE SECOND FORM's CARD OF 'ostlerlaw15.LowerTells'. -/
def lowerTellsUptoCard : Claim7 := { stood := { row := lowerTellsUptoRow, standIns := [], harness := (true, "f28c247041849a22a7730ddb919b11a70afbeddf73c0b805e8dad32c3cc1e096"), looks := true }, kinds := [], alts := [], laidByText := true, laidKinds := [.data, .data, .data, .data, .pinned], laidTests := true, laidLooks := .later }
def LowerTellsUptoCardSaid : Prop := Claim7.holds Tryz.pinned (.plain (OpenSpec.upto lowerTellsSpec)) lowerTellsUptoCard

/-- THE SECOND FORM's CARD OF 'ostlerlaw15.LowerParts'. -/
def lowerPartsUptoCard : Claim7 := { stood := { row := lowerPartsUptoRow, standIns := [], harness := (true, "f28c247041849a22a7730ddb919b11a70afbeddf73c0b805e8dad32c3cc1e096"), looks := true }, kinds := [], alts := [], laidByText := true, laidKinds := [.data, .data, .data, .data, .pinned], laidTests := true, laidLooks := .later }
def LowerPartsUptoCardSaid : Prop := Claim7.holds Tryz.pinned (.plain (OpenSpec.upto lowerPartsSpec)) lowerPartsUptoCard

/-- THE SECOND FORM's CARD OF 'ostlerlaw15.LowerSmall'. -/
def lowerSmallUptoCard : Claim7 := { stood := { row := lowerSmallUptoRow, standIns := [], harness := (true, "f28c247041849a22a7730ddb919b11a70afbeddf73c0b805e8dad32c3cc1e096"), looks := true }, kinds := [], alts := [], laidByText := true, laidKinds := [.data, .data, .data, .data, .pinned], laidTests := true, laidLooks := .later }
def LowerSmallUptoCardSaid : Prop := Claim7.holds Tryz.pinned (.plain (OpenSpec.upto lowerSmallSpec)) lowerSmallUptoCard

/-- THE SECOND FORM's CARD OF 'ostlerlaw15.LowerAlone'. -/
def lowerAloneUptoCard : Claim7 := { stood := { row := lowerAloneUptoRow, standIns := [], harness := (true, "f28c247041849a22a7730ddb919b11a70afbeddf73c0b805e8dad32c3cc1e096"), looks := true }, kinds := [], alts := [], laidByText := true, laidKinds := [.data, .data, .data, .data, .pinned], laidTests := true, laidLooks := .later }
def LowerAloneUptoCardSaid : Prop := Claim7.holds Tryz.pinned (.plain (OpenSpec.upto lowerAloneSpec)) lowerAloneUptoCard

/-- THE SECOND FORM's CARD OF 'ostlerlaw15.LowerShape'. -/
def lowerShapeUptoCard : Claim7 := { stood := { row := lowerShapeUptoRow, standIns := [], harness := (true, "f28c247041849a22a7730ddb919b11a70afbeddf73c0b805e8dad32c3cc1e096"), looks := true }, kinds := [], alts := [], laidByText := true, laidKinds := [.data, .data, .data, .data, .pinned], laidTests := true, laidLooks := .later }
def LowerShapeUptoCardSaid : Prop := Claim7.holds Tryz.pinned (.plain (OpenSpec.upto lowerShapeSpec)) lowerShapeUptoCard

/-- THE SECOND FORM's CARD OF 'ostlerlaw15.LowerShows'. -/
def lowerShowsUptoCard : Claim7 := { stood := { row := lowerShowsUptoRow, standIns := [], harness := (true, "f28c247041849a22a7730ddb919b11a70afbeddf73c0b805e8dad32c3cc1e096"), looks := true }, kinds := [], alts := [], laidByText := true, laidKinds := [.data, .data, .data, .data, .pinned], laidTests := true, laidLooks := .later }
def LowerShowsUptoCardSaid : Prop := Claim7.holds Tryz.pinned (.plain (OpenSpec.upto lowerShowsSpec)) lowerShowsUptoCard

/-- THE SECOND FORM's CARD OF 'ostlerlaw15.LowerMeans'. -/
def lowerMeansUptoCard : Claim7 := { stood := { row := lowerMeansUptoRow, standIns := [], harness := (true, "f28c247041849a22a7730ddb919b11a70afbeddf73c0b805e8dad32c3cc1e096"), looks := true }, kinds := [], alts := [], laidByText := true, laidKinds := [.data, .data, .data, .data, .pinned], laidTests := true, laidLooks := .later }
def LowerMeansUptoCardSaid : Prop := Claim7.holds Tryz.pinned (.plain (OpenSpec.upto lowerMeansSpec)) lowerMeansUptoCard
end Rows
end Go.Proofs.YthgbkalgmicniaaGreatDoor
