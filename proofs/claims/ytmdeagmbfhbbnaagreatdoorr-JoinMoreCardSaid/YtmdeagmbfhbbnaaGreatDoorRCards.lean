/-
  DERIVED. GIVEN WITH THE SEED: THE CARDS: each row of YtmdeagmbfhbbnaaGreatDoorRRows.lean that lists a variable, with what it lists TIED to the program's text (the seventh form; the later family's looks); each row that meets fmt, with fmt's text TOLD by the authors' own Lean function (tested against real Go, not proved from fmt's source: count such statements apart). THE CARD IS WHAT COUNTS. Prove the row's statement (the work); the ties are given (YtmdeagmbfhbbnaaGreatDoorRTie.lean); close each card by the builder's one call (the guide's Derived/Test/ToyasCard.lean, 'card_holds'). Laid BY PROGRAM, IN A SANDBOX (cutbox-door.mjs). By AI agents, Wed Nov 11 2026. No macro, syntax, notation, axiom, sorry.
-/
import Derived.Test.YtmdeagmbfhbbnaaGreatDoorRRows
import GoSem.ClaimSeven
namespace Go.Proofs.YtmdeagmbfhbbnaaGreatDoorR
namespace Rows

/-- THE TIED CARD OF 'ostlerlaw12.JoinAll'. -/
def joinAllCard : Claim7 := { stood := { row := joinAllRow, standIns := [], harness := (true, "d1b4f2bcc6306bdb1b0c60284878260c8fcb9998684ab772511e1f86733bb3f5"), looks := true }, kinds := [], alts := [], laidByText := true, laidKinds := [.data, .data, .data, .data, .pinned], laidTests := true, laidLooks := .later }
def JoinAllCardSaid : Prop := Claim7.holds Tryz.pinned (.plain (OpenSpec.ofChange joinAllSpec)) joinAllCard

/-- THE TIED CARD OF 'ostlerlaw12.JoinSorted'. -/
def joinSortedCard : Claim7 := { stood := { row := joinSortedRow, standIns := [], harness := (true, "d1b4f2bcc6306bdb1b0c60284878260c8fcb9998684ab772511e1f86733bb3f5"), looks := true }, kinds := [], alts := [], laidByText := true, laidKinds := [.data, .data, .data, .data, .pinned], laidTests := true, laidLooks := .later }
def JoinSortedCardSaid : Prop := Claim7.holds Tryz.pinned (.plain (OpenSpec.ofChange joinSortedSpec)) joinSortedCard

/-- THE TIED CARD OF 'ostlerlaw12.JoinSplit'. -/
def joinSplitCard : Claim7 := { stood := { row := joinSplitRow, standIns := [], harness := (true, "d1b4f2bcc6306bdb1b0c60284878260c8fcb9998684ab772511e1f86733bb3f5"), looks := true }, kinds := [], alts := [], laidByText := true, laidKinds := [.data, .data, .data, .data, .pinned], laidTests := true, laidLooks := .later }
def JoinSplitCardSaid : Prop := Claim7.holds Tryz.pinned (.plain (OpenSpec.ofChange joinSplitSpec)) joinSplitCard

/-- THE TIED CARD OF 'ostlerlaw12.JoinMore'. -/
def joinMoreCard : Claim7 := { stood := { row := joinMoreRow, standIns := [], harness := (true, "d1b4f2bcc6306bdb1b0c60284878260c8fcb9998684ab772511e1f86733bb3f5"), looks := true }, kinds := [], alts := [], laidByText := true, laidKinds := [.data, .data, .data, .data, .pinned], laidTests := true, laidLooks := .later }
def JoinMoreCardSaid : Prop := Claim7.holds Tryz.pinned (.plain (OpenSpec.ofChange joinMoreSpec)) joinMoreCard

/-- THE SECOND FORM's CARD OF 'ostlerlaw12.JoinAll'. -/
def joinAllUptoCard : Claim7 := { stood := { row := joinAllUptoRow, standIns := [], harness := (true, "d1b4f2bcc6306bdb1b0c60284878260c8fcb9998684ab772511e1f86733bb3f5"), looks := true }, kinds := [], alts := [], laidByText := true, laidKinds := [.data, .data, .data, .data, .pinned], laidTests := true, laidLooks := .later }
def JoinAllUptoCardSaid : Prop := Claim7.holds Tryz.pinned (.plain (OpenSpec.upto joinAllSpec)) joinAllUptoCard

/-- THE SECOND FORM's CARD OF 'ostlerlaw12.JoinSorted'. -/
def joinSortedUptoCard : Claim7 := { stood := { row := joinSortedUptoRow, standIns := [], harness := (true, "d1b4f2bcc6306bdb1b0c60284878260c8fcb9998684ab772511e1f86733bb3f5"), looks := true }, kinds := [], alts := [], laidByText := true, laidKinds := [.data, .data, .data, .data, .pinned], laidTests := true, laidLooks := .later }
def JoinSortedUptoCardSaid : Prop := Claim7.holds Tryz.pinned (.plain (OpenSpec.upto joinSortedSpec)) joinSortedUptoCard

/-- THE SECOND FORM's CARD OF 'ostlerlaw12.JoinSplit'. -/
def joinSplitUptoCard : Claim7 := { stood := { row := joinSplitUptoRow, standIns := [], harness := (true, "d1b4f2bcc6306bdb1b0c60284878260c8fcb9998684ab772511e1f86733bb3f5"), looks := true }, kinds := [], alts := [], laidByText := true, laidKinds := [.data, .data, .data, .data, .pinned], laidTests := true, laidLooks := .later }
def JoinSplitUptoCardSaid : Prop := Claim7.holds Tryz.pinned (.plain (OpenSpec.upto joinSplitSpec)) joinSplitUptoCard

/-- THE SECOND FORM's CARD OF 'ostlerlaw12.JoinMore'. -/
def joinMoreUptoCard : Claim7 := { stood := { row := joinMoreUptoRow, standIns := [], harness := (true, "d1b4f2bcc6306bdb1b0c60284878260c8fcb9998684ab772511e1f86733bb3f5"), looks := true }, kinds := [], alts := [], laidByText := true, laidKinds := [.data, .data, .data, .data, .pinned], laidTests := true, laidLooks := .later }
def JoinMoreUptoCardSaid : Prop := Claim7.holds Tryz.pinned (.plain (OpenSpec.upto joinMoreSpec)) joinMoreUptoCard
end Rows
end Go.Proofs.YtmdeagmbfhbbnaaGreatDoorR
